/- FillOrder, of the program and of the reference. -/
import Derived.Test.YtphncbnnnickhaaFillLaw
import Derived.Maps.AppendAt
namespace Go.Proofs.Ytphncbnnnickhaa
open Go.RowKit Go.Shelf
set_option linter.unusedVariables false
set_option linter.unusedSimpArgs false

/-- As Ans, and the room is known. -/
def AnsC (v : Value → Value) (m : Nat) (fl : List Int) (t : TypeId) (w : World) (e : Ending) (w' : World) : Prop :=
  ∃ A c, e = .returned (v (.slice A m c)) ∧ m ≤ c ∧ Own t w' w.heap.size w'.heap.size A fl ∧ Below w.heap.size w w'
theorem AnsC.ans {v : Value → Value} {m : Nat} {fl : List Int} {t : TypeId} {w : World} {e : Ending} {w' : World} (h : AnsC v m fl t w e w') : Ans v m fl t w e w' := by
  obtain ⟨A, c, h1, _, h2, h3⟩ := h
  exact ⟨A, c, h1, h2, h3⟩
theorem bool_to {f : FuncId} {args : Array Value} {w : World} {v x : Bool} (h : Calls Try.prog f args w fun e w' => e = .returned (.bool v) ∧ Below w.heap.size w w') (e : v = x) :
    Calls Try.prog f args w fun e w' => e = .returned (.bool x) ∧ Below w.heap.size w w' := by rw [← e]; exact h
theorem ord_take {l : List BoxV} {k : Nat} {x : BoxV} (h : (ordB l)[k]? = some x) : ((ordB l).take (k + 1)).map (fun x => x.id) = ((ordB l).take k).map (fun x => x.id) ++ [x.id] := by rw [take_next h]; simp
theorem row_more {w : World} {base size n : Nat} {t : TypeId} {v : Value} {L M : List Int} {x : Int} (h : w.ownsRow base t size v (n + 1) (L.map (Value.int .i64) ++ [.int .i64 x])) (e : M = L ++ [x]) : w.ownsRow base t size v (n + 1) (M.map (Value.int .i64)) := by
  rw [e]; simpa using h
theorem ord_short {l : List BoxV} (h : BV l) (k : Nat) : (((ordB l).take k).map (fun x => x.id)).length ≤ 10 := by
  rw [List.length_map, List.length_take, ordB_length]; have := h.len; omega
theorem new_at2 (w : World) (o : Obj) (x : Value) (t : TypeId) : ∀ j u, [x][j]? = some u → ((w.alloc o).alloc (.cells #[x] t)).cell? ((⟨w.heap.size + 1, 0, none⟩ : Addr).add j) = some u := by
  have h := cell_one_new (w.alloc o) x t
  have e : (w.alloc o).heap.size = w.heap.size + 1 := by simp
  rwa [e] at h
set_option maxHeartbeats 3200000 in
set_option maxRecDepth 20000 in
theorem fo_impl (A : Option Addr) (l : List BoxV) (c : Nat) (w : World) (ha : RdBox w A l) (hl : l.length ≤ 1048576) (hlc : l.length ≤ c) :
    Calls Try.prog 11 #[.slice A l.length c] w (AnsC (fun s => s) (fillS l).length (fillS l) 3 w) := by
  obtain ⟨i0, hi, hz0, hz1, hz2⟩ := info_parts info_int
  obtain ⟨N, HN⟩ : ∃ N, Hid (fillS l = N) := ⟨_, rfl⟩
  rw [HN.out]
  cases hv : bvS l with
  | false =>
    have HQ := Lib.hid (bool_to (bsv_impl A l c w ha hl hlc) hv)
    have HO := Lib.hid (HN.out.symm.trans (fillS_no hv))
    clear hv
    go_enter Try.func11, Try.ntmps11
    go_wp2_with fail
    refine HQ.out.mono ?_
    rintro e w1 ⟨rfl, b1⟩
    go_wp2_with fail
    go_ret
    rw [HO.out]
    exact ⟨none, 0, rfl, Nat.le_refl _, Own.nil_, b1⟩
  | true =>
    have HQ := Lib.hid (bool_to (bsv_impl A l c w ha hl hlc) hv)
    have HBV := Lib.hid (bvS_spec hv)
    have h10 := HBV.out.len
    have HO := Lib.hid (HN.out.symm.trans (fillS_yes hv))
    have HSL := Lib.hid (ordB_length l)
    clear hv
    go_enter Try.func11, Try.ntmps11
    go_wp2_with fail
    refine HQ.out.mono ?_
    rintro e w1 ⟨rfl, b1⟩
    have ha1 := ha.below b1
    go_wp2_with fail
    refine (cloneBox_any A l c w1 ha1 hl).mono ?_
    rintro e w2 ⟨A2, c2, rfl, o2, b2⟩
    have b12 := b1.trans (b2.mono b1.size)
    go_wp2_with fail
    refine (sortOwn_any l w1.heap.size w2.heap.size A2 c2 w2 o2 (by omega)).mono ?_
    rintro e w3 ⟨rfl, o3, ch3⟩
    have b13 := b12.trans ((ch3.below (B := w.heap.size) b1.size b12.size))
    have hs := RdBox.of_rd o3.rd
    have HS3 : Hid (RdBox w3 A2 (ordB l)) := hs
    clear hs o3 o2 ch3 b2 b12 b1 ha1
    go_wp2_with fail
    go_loopw [4, 16] (fun v i wr => ∃ (k : Nat) (L : List Int), k ≤ l.length ∧ i = .int .i64 k ∧ Hid (L = ((ordB l).take k).map (fun x => x.id)) ∧ wr.ownsRow w3.heap.size 3 1 v k (L.map (Value.int .i64)) ∧ Below w3.heap.size w3 wr) (fun _ i _ => l.length - (intOf i).toNat)
    case atStart => exact ⟨0, [], by omega, rfl, rfl, World.ownsRow_nil _ _ _ _, Below.refl _ _⟩
    case round =>
      obtain ⟨k, L, hk, rfl, HL, hown, hbw⟩ := hrel
      by_cases hlt : k < l.length
      · obtain ⟨b, off, x, e, hbx, Hx, hx0, hx1, hx2, hx3, hx4⟩ := (HS3.out.below hbw).at_ (k := k) (by have := HSL.out; omega)
        subst e
        have q0 : (0 : Int) ≤ (k : Int) := by omega
        have q1 : (k : Int) < (l.length : Int) := by omega
        have hone : ∀ u ∈ [Value.int .i64 x.id], u.oneCell' = true := fun u hu => by rw [List.mem_singleton.1 hu]; rfl
        have HNX : Hid (((ordB l).take (k + 1)).map (fun x => x.id) = L ++ [x.id]) := by show _ = _; rw [HL.out]; exact ord_take Hx.out
        have HNW := Lib.hid (new_at2 wr (.cells #[.int .i64 x.id, .int .i64 x.weight, .int .i64 x.class_, .int .i64 x.port, .bool x.cold] 45) (.int .i64 x.id) 3)
        have hbk := hown.lt
        have hsz := hbw.size
        go_wp2_with (at_builtin; refine wpList_append_own _ rfl _ _ 24 rfl w3.heap.size 3 i0 (.int .i64 0) 1 8 Try.underlying24 hi hz0 hz1 hz2 rfl (by decide) _ _ _ rfl ((hown.alloc (.cells #[.int .i64 x.id, .int .i64 x.weight, .int .i64 x.class_, .int .i64 x.port, .bool x.cold] 45)).alloc (.cells #[.int .i64 x.id] 3)) ⟨wr.heap.size + 1, 0, none⟩ 1 1 [.int .i64 x.id] rfl rfl HNW.out hone ?c3 ?c4 ?c5 ?_)
        case c3 => unfold maxLen; omega
        case c4 => omega
        case c5 => simp; omega
        intro v' w4 hown4 hgrow _
        have hb4 := Lib.hid (((hbw.alloc hsz (.cells #[.int .i64 x.id, .int .i64 x.weight, .int .i64 x.class_, .int .i64 x.port, .bool x.cold] 45)).alloc (by simp; omega) (.cells #[.int .i64 x.id] 3)).grown hgrow (by simp; omega) (fun b e => (hbk b e).1))
        have hown5 : Hid (w4.ownsRow w3.heap.size 3 1 v' (k + 1) ((L ++ [x.id]).map (Value.int .i64))) := Lib.hid (row_more hown4 rfl)
        clear hown4 hgrow hown
        go_wp2_with fail
        exact ⟨⟨k + 1, L ++ [x.id], by omega, by go_num, HNX.out.symm, hown5.out, hb4.out⟩, by simp [intOf]; omega⟩
      · obtain rfl : k = l.length := by omega
        have HNE : Hid (L = N) := by
          show _ = _
          rw [HL.out, HO.out, List.take_of_length_le (by have := HSL.out; omega)]
        have HR : Hid (wr.ownsRow w3.heap.size 3 1 u4 l.length (N.map (Value.int .i64))) := by
          show World.ownsRow _ _ _ _ _ _ _
          rw [← HNE.out]
          exact hown
        have HLN : Hid (l.length = N.length) := by show _ = _; rw [HO.out, List.length_map, HSL.out]
        clear hown
        go_wp2_with fail
        go_ret
        obtain ⟨A5, c5, e, hc5⟩ := own_slice HR.out
        subst e
        exact ⟨A5, c5, by rw [← HLN.out]; rfl, by rw [← HLN.out]; exact hc5, (Own.of_row HR.out (Nat.le_refl _)).wide b13.size (Nat.le_refl _), b13.trans (hbw.mono b13.size)⟩
end Go.Proofs.Ytphncbnnnickhaa
