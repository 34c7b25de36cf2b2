/- The way that is cleared: the walks. -/
import Derived.Test.YtiffcnhmlmblhaaRail2
namespace Go.Proofs.Ytiffcnhmlmblhaa
open Go.RowKit
set_option linter.unusedVariables false

def Cleared (r : List Int) (cr t : Int) (w : World) (e : Ending) (w' : World) : Prop :=
  ∃ A m c b, e = .returned (.tuple #[.slice A m c, .bool b]) ∧ ((clearOk r cr t = true ∧ m = (clearW r cr.toNat t).length ∧ b = true ∧ Own 30 w' w.heap.size w'.heap.size A (flatDrive (clearW r cr.toNat t))) ∨ (clearOk r cr t = false ∧ m = 0 ∧ b = false)) ∧ Below w.heap.size w w'

/-- What the loops have gathered. -/
def Gath (W : World) (base : Nat) (v : Value) (l : List DriveV) : Prop := W.ownsRow base 30 2 v l.length ((flatDrive l).map (Value.int .i64))
theorem Gath.push {W : World} {base : Nat} {v : Value} {l : List DriveV} {x : DriveV} (h : W.ownsRow base 30 2 v (l.length + 1) ((flatDrive l).map (Value.int .i64) ++ [.int .i64 x.crane, .int .i64 x.to])) : Gath W base v (l ++ [x]) := by
  unfold Gath
  rw [flatDrive_append]
  simpa [flatDrive] using h
theorem cells_two_new (w : World) (a b : Value) (t : TypeId) : ∀ (j : Nat) (u : Value), [a, b][j]? = some u → (w.alloc (.cells #[a, b] t)).cell? ((⟨w.heap.size, 0, none⟩ : Addr).add j) = some u := by
  intro j u hu
  rw [addr_add, (Blk.new w t #[a, b]).cell, Nat.zero_add]
  match j, hu with
  | 0, hu => simpa using hu
  | 1, hu => simpa using hu

set_option maxHeartbeats 1600000 in
theorem cw_impl (A : Option Addr) (r : List Int) (c : Nat) (cr t : Int) (w : World) (ha : Rd w A r) (hl : r.length ≤ 1048576) :
    Calls Try.prog 27 #[.slice A r.length c, .int .i64 cr, .int .i64 t] w (Cleared r cr t w) := by
  obtain ⟨i0, hi, hz0, hz1, hz2⟩ := info_parts info_Drive
  cases hv : railV r
  · have HQ := Lib.hid (rv_is (c := c) ha hl hv)
    have HV := Lib.hid (p := clearOk r cr t = false) (by unfold clearOk; rw [hv]; rfl)
    clear hv
    go_enter Try.func27, Try.ntmps27
    go_wp2_with fail
    refine HQ.out.mono ?_; rintro e w' ⟨rfl, rfl⟩
    go_wp2_with fail
    go_ret2
    exact ⟨none, 0, 0, false, rfl, .inr ⟨HV.out, rfl, rfl⟩, Below.refl _ _⟩
  · have HQ := Lib.hid (rv_is (c := c) ha hl hv)
    obtain ⟨_, l1, l4⟩ := railV_spec hv
    by_cases hc : 0 ≤ cr ∧ cr ≤ (r.length : Int) - 1
    · by_cases ht : 2 * cr ≤ t ∧ t ≤ 20 - 2 * ((r.length : Int) - 1 - cr)
      · have HV := Lib.hid (p := clearOk r cr t = true) (by unfold clearOk; rw [hv, decide_eq_true hc, decide_eq_true ht]; rfl)
        clear hv
        obtain ⟨cr, rfl⟩ := Int.eq_ofNat_of_zero_le hc.1
        have c9 := hc.2
        have t1 := ht.1
        have t2 := ht.2
        go_enter Try.func27, Try.ntmps27
        go_wp2_with fail
        refine HQ.out.mono ?_; rintro e w' ⟨rfl, rfl⟩
        go_wp2_with (first | (go_at_call 37; ((with_reducible refine (within_t (cr : Int) _ _ _ hc).mono ?_); rintro e w' ⟨rfl, rfl⟩)) | (go_at_call 37; ((with_reducible refine (within_t t _ _ _ ht).mono ?_); rintro e w' ⟨rfl, rfl⟩)))
        go_loopw [8, 9] (fun v i wr => ∃ (k m : Nat), k + m ≤ r.length - 1 ∧ r.length - 1 ≤ k + m ∧ cr ≤ k ∧ i = .int .i64 k ∧ Gath wr w.heap.size v (hiD r cr t m) ∧ Below w.heap.size w wr) (fun _ i _ => (intOf i).toNat)
        case atStart => exact ⟨r.length - 1, 0, by omega, by omega, by omega, by rw [Int.ofNat_sub l1]; rfl, World.ownsRow_nil _ _ _ _, Below.refl _ _⟩
        case round =>
          obtain ⟨k, m, hk1, hk2, hk3, rfl, hown, hbw⟩ := hrel
          by_cases hlt : cr < k
          · obtain ⟨b, off, x, rfl, hbx, Hx, hcx⟩ := (ha.below hbw).at_ (k := k) (by omega)
            obtain ⟨k', hk'⟩ : ∃ k', k = k' + 1 := ⟨k - 1, by omega⟩
            have HK := Lib.hid hk'
            clear hk'
            have p0 : (0 : Int) ≤ (k : Int) := by omega
            have p1 : (k : Int) < (r.length : Int) := by omega
            by_cases hx : x < t + 2 * ((k : Int) - (cr : Int))
            · have HN := Lib.hid (hiD_yes (c := cr) (t := t) (by omega : k + m = r.length - 1) Hx.out hx)
              have hlm := hiD_length r cr t m
              go_wp2_with (at_builtin; refine wpList_append_own _ rfl _ _ 38 rfl w.heap.size 30 i0 (.agg #[.int .i64 0, .int .i64 0]) 2 16 Try.underlying38 hi hz0 hz1 hz2 rfl (by decide) _ _ _ rfl (hown.alloc _) ⟨wr.heap.size, 0, none⟩ 1 1 [.int .i64 k, .int .i64 (t + 2 * ((k : Int) - (cr : Int)))] rfl rfl ?c1 ?c2 ?c3 ?c4 ?c5 ?_)
              case c1 => exact cells_two_new _ _ _ _
              case c2 => intro u hu; simp at hu; rcases hu with rfl | rfl <;> rfl
              case c3 => unfold maxLen; omega
              case c4 => omega
              case c5 => have := hbw.size; simp; omega
              intro v' w3 hown3 hgrow _
              have hb := hown.lt
              go_wp2
              have h1 := HK.out
              exact ⟨⟨k', m + 1, by omega, by omega, by omega, by rw [h1]; go_num, by rw [HN.out]; exact Gath.push hown3, (hbw.alloc hbw.size _).grown hgrow (by have := hbw.size; simp; omega) (fun b e => (hb b e).1)⟩, by simp [intOf]; omega⟩
            · have HN := Lib.hid (hiD_no (c := cr) (t := t) (by omega : k + m = r.length - 1) Hx.out hx)
              go_wp2
              have h1 := HK.out
              exact ⟨⟨k', m + 1, by omega, by omega, by omega, by rw [h1]; go_num, by rw [HN.out]; exact hown, hbw⟩, by simp [intOf]; omega⟩
          · have HM : Hid (m = r.length - 1 - cr) := by show _ = _; omega
            obtain ⟨L, HL⟩ : ∃ L, Hid (hiD r cr t m = L) := ⟨_, rfl⟩
            have hLl : L.length ≤ r.length := by have := hiD_length r cr t m; rw [HL.out] at this; omega
            rw [HL.out] at hown
            go_wp2_with fail
            go_loopw [8, 65] (fun v i wr => ∃ j : Nat, j ≤ cr ∧ i = .int .i64 j ∧ Gath wr w.heap.size v (L ++ loD r cr t j) ∧ Below w.heap.size w wr) (fun _ i _ => cr - (intOf i).toNat)
            case atStart => exact ⟨0, by omega, rfl, by simpa [loD] using hown, hbw⟩
            case round =>
              clear hown hbw
              obtain ⟨j, hj, rfl, hown, hbw⟩ := hrel
              have hlm := loD_length r cr t j
              obtain ⟨G, HGj⟩ : ∃ G, Hid (L ++ loD r cr t j = G) := ⟨_, rfl⟩
              have hlen : G.length ≤ 2097152 := by rw [← HGj.out, List.length_append]; omega
              rw [HGj.out] at hown
              by_cases hlt2 : j < cr
              · obtain ⟨b, off, x, rfl, hbx, Hx, hcx⟩ := (ha.below hbw).at_ (k := j) (by omega)
                have p0 : (0 : Int) ≤ (j : Int) := by omega
                have p1 : (j : Int) < (r.length : Int) := by omega
                by_cases hx : t - 2 * ((cr : Int) - (j : Int)) < x
                · have HN := Lib.hid (loD_yes (c := cr) (t := t) Hx.out hx)
                  go_wp2_with (at_builtin; refine wpList_append_own _ rfl _ _ 38 rfl w.heap.size 30 i0 (.agg #[.int .i64 0, .int .i64 0]) 2 16 Try.underlying38 hi hz0 hz1 hz2 rfl (by decide) _ _ _ rfl (hown.alloc _) ⟨wr.heap.size, 0, none⟩ 1 1 [.int .i64 j, .int .i64 (t - 2 * ((cr : Int) - (j : Int)))] rfl rfl ?c1 ?c2 ?c3 ?c4 ?c5 ?_)
                  case c1 => exact cells_two_new _ _ _ _
                  case c2 => intro u hu; simp at hu; rcases hu with rfl | rfl <;> rfl
                  case c3 => unfold maxLen; omega
                  case c4 => omega
                  case c5 => have := hbw.size; simp; omega
                  intro v' w3 hown3 hgrow _
                  have hb := hown.lt
                  go_wp2
                  exact ⟨⟨j + 1, by omega, by go_num, by rw [HN.out, ← List.append_assoc, HGj.out]; exact Gath.push hown3, (hbw.alloc hbw.size _).grown hgrow (by have := hbw.size; simp; omega) (fun b e => (hb b e).1)⟩, by simp [intOf]; omega⟩
                · have HN := Lib.hid (loD_no (c := cr) (t := t) Hx.out hx)
                  go_wp2
                  exact ⟨⟨j + 1, by omega, by go_num, by rw [HN.out, HGj.out]; exact hown, hbw⟩, by simp [intOf]; omega⟩
              · have HJ : Hid (j = cr) := by show _ = _; omega
                go_wp2_with (at_builtin; refine wpList_append_own _ rfl _ _ 38 rfl w.heap.size 30 i0 (.agg #[.int .i64 0, .int .i64 0]) 2 16 Try.underlying38 hi hz0 hz1 hz2 rfl (by decide) _ _ _ rfl (hown.alloc _) ⟨wr.heap.size, 0, none⟩ 1 1 [.int .i64 cr, .int .i64 t] rfl rfl ?c1 ?c2 ?c3 ?c4 ?c5 ?_)
                case c1 => exact cells_two_new _ _ _ _
                case c2 => intro u hu; simp at hu; rcases hu with rfl | rfl <;> rfl
                case c3 => unfold maxLen; omega
                case c4 => omega
                case c5 => have := hbw.size; simp; omega
                intro v' w3 hown3 hgrow _
                have hb := hown.lt
                obtain ⟨A3, c3, rfl, hc3⟩ := own_slice hown3
                have HG : Hid (Gath w3 w.heap.size (.slice A3 (G.length + 1) c3) (G ++ [⟨cr, t⟩])) := Gath.push hown3
                have HB : Hid (Below w.heap.size w w3) := (hbw.alloc hbw.size _).grown hgrow (by have := hbw.size; simp; omega) (fun b e => (hb b e).1)
                clear hown3 hgrow
                go_wp2_with fail
                go_ret2
                have hW : clearW r (cr : Int).toNat t = G ++ [⟨cr, t⟩] := by
                  unfold clearW; rw [Int.toNat_natCast, ← HM.out, HL.out, ← HGj.out, HJ.out]
                refine ⟨A3, _, c3, true, rfl, .inl ⟨HV.out, by rw [hW]; simp, rfl, ?_⟩, HB.out⟩
                rw [hW]
                exact Own.of_row (size := 2) (n := G.length + 1) (c := c3) (by have := HG.out; unfold Gath at this; simpa using this) (Nat.le_refl _)
      · have HV := Lib.hid (p := clearOk r cr t = false) (by unfold clearOk; rw [decide_eq_false ht, Bool.and_false])
        clear hv
        have c0 := hc.1
        have c9 := hc.2
        go_enter Try.func27, Try.ntmps27
        go_wp2_with fail
        refine HQ.out.mono ?_; rintro e w' ⟨rfl, rfl⟩
        go_wp2_with (first | (go_at_call 37; ((with_reducible refine (within_t cr _ _ _ hc).mono ?_); rintro e w' ⟨rfl, rfl⟩)) | (go_at_call 37; ((with_reducible refine (within_f t _ _ _ ht).mono ?_); rintro e w' ⟨rfl, rfl⟩)))
        go_ret2
        exact ⟨none, 0, 0, false, rfl, .inr ⟨HV.out, rfl, rfl⟩, Below.refl _ _⟩
    · have HV := Lib.hid (p := clearOk r cr t = false) (by unfold clearOk; rw [decide_eq_false hc, Bool.and_false, Bool.false_and])
      clear hv
      go_enter Try.func27, Try.ntmps27
      go_wp2_with fail
      refine HQ.out.mono ?_; rintro e w' ⟨rfl, rfl⟩
      go_wp2_with (go_at_call 37; ((with_reducible refine (within_f cr _ _ _ hc).mono ?_); rintro e w' ⟨rfl, rfl⟩))
      go_ret2
      exact ⟨none, 0, 0, false, rfl, .inr ⟨HV.out, rfl, rfl⟩, Below.refl _ _⟩

set_option maxHeartbeats 1600000 in
theorem cw_spec (A : Option Addr) (r : List Int) (c : Nat) (cr t : Int) (w : World) (ha : Rd w A r) (hl : r.length ≤ 1048576) :
    Calls Try.prog 26 #[.slice A r.length c, .int .i64 cr, .int .i64 t] w (Cleared r cr t w) := by
  obtain ⟨i0, hi, hz0, hz1, hz2⟩ := info_parts info_Drive
  cases hv : railV r
  · have HQ := Lib.hid (rs_is (c := c) (ha.alloc (.cells #[] 30)) hl hv)
    have HV := Lib.hid (p := clearOk r cr t = false) (by unfold clearOk; rw [hv]; rfl)
    clear hv
    go_enter Try.func26, Try.ntmps26
    go_wp2_with fail
    refine HQ.out.mono ?_; rintro e w' ⟨rfl, n, rfl⟩
    go_wp2_with fail
    go_ret2
    exact ⟨_, 0, 0, false, rfl, .inr ⟨HV.out, rfl, rfl⟩, below_drewN ((Below.refl _ _).alloc (Nat.le_refl _) _) _⟩
  · have HQ := Lib.hid (rs_is (c := c) (ha.alloc (.cells #[] 30)) hl hv)
    obtain ⟨_, l1, l4⟩ := railV_spec hv
    by_cases hc : 0 ≤ cr ∧ cr ≤ (r.length : Int) - 1
    · by_cases ht : 2 * cr ≤ t ∧ t ≤ 20 - 2 * ((r.length : Int) - 1 - cr)
      · have HV := Lib.hid (p := clearOk r cr t = true) (by unfold clearOk; rw [hv, decide_eq_true hc, decide_eq_true ht]; rfl)
        clear hv
        obtain ⟨cr, rfl⟩ := Int.eq_ofNat_of_zero_le hc.1
        have c9 := hc.2
        have t1 := ht.1
        have t2 := ht.2
        go_enter Try.func26, Try.ntmps26
        go_wp2_with fail
        refine HQ.out.mono ?_; rintro e w' ⟨rfl, n, rfl⟩
        go_wp2_with (first | (go_at_call 36; ((with_reducible refine (l1In_t (cr : Int) _ _ _ hc).mono ?_); rintro e w' ⟨rfl, rfl⟩)) | (go_at_call 36; ((with_reducible refine (l1In_t t _ _ _ ht).mono ?_); rintro e w' ⟨rfl, rfl⟩)))
        go_loopw [8, 9] (fun v i wr => ∃ (k m : Nat), k + m ≤ r.length - 1 ∧ r.length - 1 ≤ k + m ∧ cr ≤ k ∧ i = .int .i64 k ∧ Gath wr w.heap.size v (hiD r cr t m) ∧ Below w.heap.size w wr) (fun _ i _ => (intOf i).toNat)
        case atStart => exact ⟨r.length - 1, 0, by omega, by omega, by omega, by rw [Int.ofNat_sub l1]; rfl, (World.ownsRow_lit w #[] 0 (Nat.le_refl _) (by unfold maxLen; omega) rfl), below_drewN ((Below.refl _ _).alloc (Nat.le_refl _) _) _⟩
        case round =>
          obtain ⟨k, m, hk1, hk2, hk3, rfl, hown, hbw⟩ := hrel
          by_cases hlt : cr < k
          · obtain ⟨b, off, x, rfl, hbx, Hx, hcx⟩ := (ha.below hbw).at_ (k := k) (by omega)
            obtain ⟨k', hk'⟩ : ∃ k', k = k' + 1 := ⟨k - 1, by omega⟩
            have HK := Lib.hid hk'
            clear hk'
            have p0 : (0 : Int) ≤ (k : Int) := by omega
            have p1 : (k : Int) < (r.length : Int) := by omega
            by_cases hx : x < t + 2 * ((k : Int) - (cr : Int))
            · have HN := Lib.hid (hiD_yes (c := cr) (t := t) (by omega : k + m = r.length - 1) Hx.out hx)
              have hlm := hiD_length r cr t m
              go_wp2_with (at_builtin; refine wpList_append_own _ rfl _ _ 38 rfl w.heap.size 30 i0 (.agg #[.int .i64 0, .int .i64 0]) 2 16 Try.underlying38 hi hz0 hz1 hz2 rfl (by decide) _ _ _ rfl (hown.alloc _) ⟨wr.heap.size, 0, none⟩ 1 1 [.int .i64 k, .int .i64 (t + 2 * ((k : Int) - (cr : Int)))] rfl rfl ?c1 ?c2 ?c3 ?c4 ?c5 ?_)
              case c1 => exact cells_two_new _ _ _ _
              case c2 => intro u hu; simp at hu; rcases hu with rfl | rfl <;> rfl
              case c3 => unfold maxLen; omega
              case c4 => omega
              case c5 => have := hbw.size; simp; omega
              intro v' w3 hown3 hgrow _
              have hb := hown.lt
              go_wp2
              have h1 := HK.out
              exact ⟨⟨k', m + 1, by omega, by omega, by omega, by rw [h1]; go_num, by rw [HN.out]; exact Gath.push hown3, (hbw.alloc hbw.size _).grown hgrow (by have := hbw.size; simp; omega) (fun b e => (hb b e).1)⟩, by simp [intOf]; omega⟩
            · have HN := Lib.hid (hiD_no (c := cr) (t := t) (by omega : k + m = r.length - 1) Hx.out hx)
              go_wp2
              have h1 := HK.out
              exact ⟨⟨k', m + 1, by omega, by omega, by omega, by rw [h1]; go_num, by rw [HN.out]; exact hown, hbw⟩, by simp [intOf]; omega⟩
          · have HM : Hid (m = r.length - 1 - cr) := by show _ = _; omega
            obtain ⟨L, HL⟩ : ∃ L, Hid (hiD r cr t m = L) := ⟨_, rfl⟩
            have hLl : L.length ≤ r.length := by have := hiD_length r cr t m; rw [HL.out] at this; omega
            rw [HL.out] at hown
            go_wp2_with fail
            go_loopw [8, 10] (fun v i wr => ∃ j : Nat, j ≤ cr ∧ i = .int .i64 j ∧ Gath wr w.heap.size v (L ++ loD r cr t j) ∧ Below w.heap.size w wr) (fun _ i _ => cr - (intOf i).toNat)
            case atStart => exact ⟨0, by omega, rfl, by simpa [loD] using hown, hbw⟩
            case round =>
              clear hown hbw
              obtain ⟨j, hj, rfl, hown, hbw⟩ := hrel
              have hlm := loD_length r cr t j
              obtain ⟨G, HGj⟩ : ∃ G, Hid (L ++ loD r cr t j = G) := ⟨_, rfl⟩
              have hlen : G.length ≤ 2097152 := by rw [← HGj.out, List.length_append]; omega
              rw [HGj.out] at hown
              by_cases hlt2 : j < cr
              · obtain ⟨b, off, x, rfl, hbx, Hx, hcx⟩ := (ha.below hbw).at_ (k := j) (by omega)
                have p0 : (0 : Int) ≤ (j : Int) := by omega
                have p1 : (j : Int) < (r.length : Int) := by omega
                by_cases hx : t - 2 * ((cr : Int) - (j : Int)) < x
                · have HN := Lib.hid (loD_yes (c := cr) (t := t) Hx.out hx)
                  go_wp2_with (at_builtin; refine wpList_append_own _ rfl _ _ 38 rfl w.heap.size 30 i0 (.agg #[.int .i64 0, .int .i64 0]) 2 16 Try.underlying38 hi hz0 hz1 hz2 rfl (by decide) _ _ _ rfl (hown.alloc _) ⟨wr.heap.size, 0, none⟩ 1 1 [.int .i64 j, .int .i64 (t - 2 * ((cr : Int) - (j : Int)))] rfl rfl ?c1 ?c2 ?c3 ?c4 ?c5 ?_)
                  case c1 => exact cells_two_new _ _ _ _
                  case c2 => intro u hu; simp at hu; rcases hu with rfl | rfl <;> rfl
                  case c3 => unfold maxLen; omega
                  case c4 => omega
                  case c5 => have := hbw.size; simp; omega
                  intro v' w3 hown3 hgrow _
                  have hb := hown.lt
                  go_wp2
                  exact ⟨⟨j + 1, by omega, by go_num, by rw [HN.out, ← List.append_assoc, HGj.out]; exact Gath.push hown3, (hbw.alloc hbw.size _).grown hgrow (by have := hbw.size; simp; omega) (fun b e => (hb b e).1)⟩, by simp [intOf]; omega⟩
                · have HN := Lib.hid (loD_no (c := cr) (t := t) Hx.out hx)
                  go_wp2
                  exact ⟨⟨j + 1, by omega, by go_num, by rw [HN.out, HGj.out]; exact hown, hbw⟩, by simp [intOf]; omega⟩
              · have HJ : Hid (j = cr) := by show _ = _; omega
                go_wp2_with (at_builtin; refine wpList_append_own _ rfl _ _ 38 rfl w.heap.size 30 i0 (.agg #[.int .i64 0, .int .i64 0]) 2 16 Try.underlying38 hi hz0 hz1 hz2 rfl (by decide) _ _ _ rfl (hown.alloc _) ⟨wr.heap.size, 0, none⟩ 1 1 [.int .i64 cr, .int .i64 t] rfl rfl ?c1 ?c2 ?c3 ?c4 ?c5 ?_)
                case c1 => exact cells_two_new _ _ _ _
                case c2 => intro u hu; simp at hu; rcases hu with rfl | rfl <;> rfl
                case c3 => unfold maxLen; omega
                case c4 => omega
                case c5 => have := hbw.size; simp; omega
                intro v' w3 hown3 hgrow _
                have hb := hown.lt
                obtain ⟨A3, c3, rfl, hc3⟩ := own_slice hown3
                have HG : Hid (Gath w3 w.heap.size (.slice A3 (G.length + 1) c3) (G ++ [⟨cr, t⟩])) := Gath.push hown3
                have HB : Hid (Below w.heap.size w w3) := (hbw.alloc hbw.size _).grown hgrow (by have := hbw.size; simp; omega) (fun b e => (hb b e).1)
                clear hown3 hgrow
                go_wp2_with fail
                go_ret2
                have hW : clearW r (cr : Int).toNat t = G ++ [⟨cr, t⟩] := by
                  unfold clearW; rw [Int.toNat_natCast, ← HM.out, HL.out, ← HGj.out, HJ.out]
                refine ⟨A3, _, c3, true, rfl, .inl ⟨HV.out, by rw [hW]; simp, rfl, ?_⟩, HB.out⟩
                rw [hW]
                exact Own.of_row (size := 2) (n := G.length + 1) (c := c3) (by have := HG.out; unfold Gath at this; simpa using this) (Nat.le_refl _)
      · have HV := Lib.hid (p := clearOk r cr t = false) (by unfold clearOk; rw [decide_eq_false ht, Bool.and_false])
        clear hv
        have c0 := hc.1
        have c9 := hc.2
        go_enter Try.func26, Try.ntmps26
        go_wp2_with fail
        refine HQ.out.mono ?_; rintro e w' ⟨rfl, n, rfl⟩
        go_wp2_with (first | (go_at_call 36; ((with_reducible refine (l1In_t cr _ _ _ hc).mono ?_); rintro e w' ⟨rfl, rfl⟩)) | (go_at_call 36; ((with_reducible refine (l1In_f t _ _ _ ht).mono ?_); rintro e w' ⟨rfl, rfl⟩)))
        go_ret2
        exact ⟨_, 0, 0, false, rfl, .inr ⟨HV.out, rfl, rfl⟩, below_drewN ((Below.refl _ _).alloc (Nat.le_refl _) _) _⟩
    · have HV := Lib.hid (p := clearOk r cr t = false) (by unfold clearOk; rw [decide_eq_false hc, Bool.and_false, Bool.false_and])
      clear hv
      go_enter Try.func26, Try.ntmps26
      go_wp2_with fail
      refine HQ.out.mono ?_; rintro e w' ⟨rfl, n, rfl⟩
      go_wp2_with (go_at_call 36; ((with_reducible refine (l1In_f cr _ _ _ hc).mono ?_); rintro e w' ⟨rfl, rfl⟩))
      go_ret2
      exact ⟨_, 0, 0, false, rfl, .inr ⟨HV.out, rfl, rfl⟩, below_drewN ((Below.refl _ _).alloc (Nat.le_refl _) _) _⟩

end Go.Proofs.Ytiffcnhmlmblhaa
