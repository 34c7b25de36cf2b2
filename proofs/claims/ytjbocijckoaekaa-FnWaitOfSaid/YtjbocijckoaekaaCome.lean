/- ComeOrder: the program's walk: a stable sort of the indices. -/
import Derived.Test.YtjbocijckoaekaaPair
import Derived.Test.YtjbocijckoaekaaSort
import Derived.Test.YtjbocijckoaekaaSortLaw
import Derived.Laws.OwnMore
namespace Go.Proofs.Ytjbocijckoaekaa
open Go.RowKit Go.Shelf
set_option linter.unusedVariables false
set_option linter.unusedSimpArgs false

theorem marks_list {cs : Array Value} {n : Nat} {k : Int} (hs : cs.size = n) (h : ∀ (j : Nat) (x : Int), j < n → (marks n k)[j]? = some x → cs[j]? = some (Value.int .i64 x)) : cs.toList = (marks n k).map (Value.int .i64) := by
  apply List.ext_getElem?
  intro j
  by_cases hj : j < n
  · have h1 := marks_at n k j hj
    rw [List.getElem?_map, h1, Array.getElem?_toList, h j _ hj h1]; rfl
  · rw [List.getElem?_eq_none (by simp; omega), List.getElem?_eq_none (by simp [marks_length]; omega)]
set_option maxHeartbeats 800000 in
theorem indices_any (n : Nat) (w : World) (hn : n ≤ 1000) :
    Calls Try.prog 47 #[.int .i64 n] w fun e w' => e = .returned (.slice (some ⟨w.heap.size, 0, none⟩) n n) ∧ (∃ cs : Array Value, Blk w' w.heap.size 3 cs ∧ cs.toList = (marks n 0).map (Value.int .i64)) ∧ Below w.heap.size w w' := by
  obtain ⟨i0, hi, hz0, hz1, hz2⟩ := info_parts info_int
  go_enter Try.func47, Try.ntmps47
  go_wp2_with (at_make; refine wpList_make_full _ rfl _ _ 29 rfl w.heap.size 3 i0 (.int .i64 0) 1 Try.underlying29 hi hz0 hz1 .i64 .i64 _ _ n rfl rfl rfl rfl ?c1 ?c2 (Nat.le_refl _) ?_)
  case c1 => rw [hz2]; omega
  case c2 => unfold maxLen; omega
  intro w1 hrow hg1
  obtain ⟨cs0, hb0, hcs0⟩ := blk_of_full hrow rfl
  have H0 : Hid (cs0.size = n) := by
    have h := congrArg List.length hcs0
    simp [size_madeCells] at h
    exact h
  have hb1 := below_grown hg1
  clear hrow hg1 hcs0 hz0 hz1 hz2 hi
  go_wp2_with fail
  go_loopw [9] (fun i wr => ∃ (k : Nat) (cs : Array Value), k ≤ n ∧ i = .int .i64 k ∧ Blk wr w.heap.size 3 cs ∧ Hid (cs.size = n) ∧ Hid (∀ (j : Nat) (x : Int), j < k → (marks n 0)[j]? = some x → cs[j]? = some (Value.int .i64 x)) ∧ Below w.heap.size w wr) (fun i _ => n - (intOf i).toNat)
  case atStart => exact ⟨0, cs0, by omega, rfl, hb0, H0, (fun j x hj => absurd hj (by omega)), hb1⟩
  case round =>
    obtain ⟨k, cs, hk, rfl, hblk, Hs, Hc, hbw⟩ := hrel
    by_cases hlt : k < n
    · have hks : k < cs.size := by have := Hs.out; omega
      obtain ⟨u, hu⟩ : ∃ u, cs[k]? = some u := ⟨cs[k], by simp [hks]⟩
      have hc2 : _ := (hblk.cell k).trans hu
      have hf2 := hblk.frozen k
      clear hu
      have HM := Lib.hid (marks_next (k0 := 0) (n := n) hks Hc.out)
      go_wp2_with fail
      exact ⟨⟨k + 1, _, by omega, by go_num, hblk.set_ k _, by have h := Hs.out; show _ = _; simpa using h, by have h := HM.out; simp only [Int.zero_add] at h; exact h, hbw.setCell (Nat.le_refl _) _⟩, by simp [intOf]; omega⟩
    · have HE := Lib.hid (marks_list Hs.out (fun j x hj => Hc.out j x (by omega)))
      go_wp2_with fail
      go_ret
      exact ⟨rfl, ⟨cs, hblk, HE.out⟩, hbw⟩

def arrOf (l : List ShipV) (x : Int) : Int := ((l[x.toNat]?).map (·.arrive)).getD 0
def cfS (l : List ShipV) (x y : Int) : Int := arrOf l x - arrOf l y
def comeS (l : List ShipV) : List Int := if listV l = true then insS (cfS l) (marks l.length 0) else []
theorem arrOf_at {l : List ShipV} {j : Nat} {y : ShipV} (h : l[j]? = some y) : arrOf l (j : Int) = y.arrive := by unfold arrOf; rw [Int.toNat_natCast, h]; rfl
set_option maxHeartbeats 800000 in
theorem clo_come (A : Option Addr) (l : List ShipV) (c B : Nat) (x y : Int) (W : World) (ha : RdShip W A l) (hk : Blk W B 25 #[.slice A l.length c]) (hv : ∀ z ∈ l, oneV z) (hl : l.length ≤ 10) (x0 : 0 ≤ x) (x9 : x < l.length) (y0 : 0 ≤ y) (y9 : y < l.length) :
    Calls Try.prog 49 #[.int .i64 x, .int .i64 y, .pointer (some ⟨B, 0, none⟩)] W fun e w' => e = .returned (.int .i64 (cfS l x y)) ∧ Below W.heap.size W w' := by
  obtain ⟨i, rfl⟩ := Int.eq_ofNat_of_zero_le x0
  obtain ⟨j, rfl⟩ := Int.eq_ofNat_of_zero_le y0
  obtain ⟨b, off, p, rfl, hbp, Hp, hp0, hp1⟩ := ha.at_ (k := i) (by omega)
  obtain ⟨b', off', q, e, hbq, Hq, hq0, hq1⟩ := ha.at_ (k := j) (by omega)
  injection e with e
  injection e with e1 e2 e3
  subst e1 e2
  have pb := hv p (mem_at Hp.out)
  have qb := hv q (mem_at Hq.out)
  unfold oneV at pb qb
  obtain ⟨⟨p1, p2⟩, _, _⟩ := pb
  obtain ⟨⟨q1, q2⟩, _, _⟩ := qb
  have c0 := hk.cell 0
  simp only [List.getElem?_toArray, List.getElem?_cons_zero] at c0
  have HR : Hid (cfS l (i : Int) (j : Int) = p.arrive - q.arrive) := by show _ = _; unfold cfS; rw [arrOf_at Hp.out, arrOf_at Hq.out]
  go_enter Try.func49, Try.ntmps49
  go_wp2_with fail
  go_quiet (fail)
  go_wp2_with fail
  go_ret
  exact ⟨ret_int HR.out.symm, below_draws _⟩

theorem comeS_no {l : List ShipV} (h : listV l = false) : comeS l = [] := by unfold comeS; rw [h]; rfl
theorem comeS_yes {l : List ShipV} (h : listV l = true) : comeS l = insS (cfS l) (marks l.length 0) := by unfold comeS; rw [h]; rfl
theorem insS_length (cf : Int → Int → Int) (q : List Int) : (insS cf q).length = q.length := insTo_length cf q _
theorem marks_mem {n : Nat} {x : Int} (h : x ∈ marks n 0) : 0 ≤ x ∧ x < n := by
  obtain ⟨j, hj⟩ := List.getElem?_of_mem h
  obtain ⟨h1, h2⟩ := marks_at_inv hj
  omega
theorem arrOf_bd {l : List ShipV} (hv : ∀ z ∈ l, oneV z) (x : Int) : 0 ≤ arrOf l x ∧ arrOf l x ≤ 999 := by
  unfold arrOf
  cases h : l[x.toNat]? with
  | none => simp
  | some z => have := hv z (List.mem_of_getElem? h); unfold oneV at this; simp; omega
theorem enters_come : ∀ args w, (callFunc 49 args).run Try.prog w = .ok (.enter 49 args) w := enters_of Try.func49 (by kernel_rfl) rfl

set_option maxHeartbeats 1600000 in
theorem co_implC (A : Option Addr) (l : List ShipV) (c : Nat) (w : World) (ha : RdShip w A l) (hl : l.length ≤ 1048576) :
    Calls Try.prog 30 #[.slice A l.length c] w (AnsC (fun s => s) (comeS l).length (comeS l) 3 w) := by
  obtain ⟨N, HN⟩ : ∃ N, Hid (comeS l = N) := ⟨_, rfl⟩
  rw [HN.out]
  have hbx := Blk.new w 25 #[.slice A l.length c]
  have ha0 := ha.alloc (.cells #[.slice A l.length c] 25)
  have bw0 : Below w.heap.size w (w.alloc (.cells #[.slice A l.length c] 25)) := (Below.refl _ _).alloc (Nat.le_refl _) _
  cases hv : listV l with
  | false =>
    have HQ := Lib.hid (lvb (lv_impl A l c _ ha0 hl) hv)
    have HO := Lib.hid (HN.out.symm.trans (comeS_no hv))
    have HB := Lib.hid bw0
    clear hv
    go_enter Try.func30, Try.ntmps30
    go_wp2_with fail
    refine HQ.out.mono ?_
    rintro e w1 ⟨rfl, b1⟩
    go_wp2_with fail
    go_ret
    rw [HO.out]
    exact ⟨none, 0, rfl, Nat.le_refl _, Own.nil_, HB.out.trans (b1.mono HB.out.size)⟩
  | true =>
    have HQ := Lib.hid (lvb (lv_impl A l c _ ha0 hl) hv)
    have HO := Lib.hid (HN.out.symm.trans (comeS_yes hv))
    obtain ⟨hve, hl5⟩ := listV_spec hv
    have HVE := Lib.hid hve
    have HB := Lib.hid bw0
    have HBX := Lib.hid hbx
    clear hv hve hbx
    go_enter Try.func30, Try.ntmps30
    go_wp2_with fail
    refine HQ.out.mono ?_
    rintro e w1 ⟨rfl, b1⟩
    have bw1 := HB.out.trans (b1.mono HB.out.size)
    have k1 := HBX.out.below b1 HBX.out.lt
    have x0 := k1.cell 0
    simp only [List.getElem?_toArray, List.getElem?_cons_zero] at x0
    have hlt1 := k1.lt
    go_wp2_with fail
    refine (indices_any l.length w1 (by omega)).mono ?_
    rintro e w2 ⟨rfl, ⟨cs, hcs, hcl⟩, b2⟩
    have k2 := k1.below b2 hlt1
    have bw2 := bw1.trans (b2.mono bw1.size)
    have ha2 := ha.below bw2
    have HS := Lib.hid (sortStable_any 49 #[.pointer (some ⟨w.heap.size, 0, none⟩)] enters_come (cfS l) (marks l.length 0) l.length w1.heap.size l.length cs w2 hcs hcl (fun x hx => marks_mem hx) (marks_length _ _) (by omega)
      (fun x y _ _ _ _ => by have h1 := arrOf_bd HVE.out x; have h2 := arrOf_bd HVE.out y; unfold cfS; omega)
      (fun W x y hW h1 h2 h3 h4 => clo_come A l c w.heap.size x y W (ha.below (bw2.trans (hW.below (by omega) bw2.size))) (k2.chg hW (.inl hlt1)) HVE.out (by omega) h1 h2 h3 h4))
    have hz2 := bw2.size
    clear hcs hcl x0 k1 b1 b2 ha2 k2
    go_wp2_with fail
    refine HS.out.mono ?_
    rintro e w3 ⟨rfl, ⟨cs3, hk3, hc3⟩, hch⟩
    have HLN : Hid (N.length = l.length) := by show _ = _; rw [HO.out, insS_length, marks_length]
    have HF : Hid (AnsC (fun s => s) N.length N 3 w (.returned (.slice (some ⟨w1.heap.size, 0, none⟩) N.length l.length)) w3) := by
      refine ⟨_, _, rfl, (by rw [HLN.out]; exact Nat.le_refl _), Own.of_blk hk3 (by omega) hk3.lt (fun k x hx => cells_at hc3 (by rw [← HO.out]; exact hx)), bw2.trans (hch.below (by omega) bw2.size)⟩
    rw [HLN.out] at HF
    clear hk3 hc3
    go_wp2_with fail
    go_ret
    rw [HLN.out]
    exact HF.out
theorem co_impl (A : Option Addr) (l : List ShipV) (c : Nat) (w : World) (ha : RdShip w A l) (hl : l.length ≤ 1048576) :
    Calls Try.prog 30 #[.slice A l.length c] w (Ans (fun s => s) (comeS l).length (comeS l) 3 w) := (co_implC A l c w ha hl).mono fun _ _ h => h.ans
end Go.Proofs.Ytjbocijckoaekaa
