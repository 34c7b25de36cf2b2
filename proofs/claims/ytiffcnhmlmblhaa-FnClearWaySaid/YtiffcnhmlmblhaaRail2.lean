/- Runs of drives: the walks. -/
import Derived.Test.YtiffcnhmlmblhaaRail
namespace Go.Proofs.Ytiffcnhmlmblhaa
open Go.RowKit
set_option linter.unusedVariables false

def DroveRun (r : List Int) (ds : List DriveV) (w : World) (e : Ending) (w' : World) : Prop :=
  ∃ A m c n, e = .returned (.tuple #[.slice A m c, .int .i64 n]) ∧ ((railV r = true ∧ m = r.length ∧ n = ((runR r ds).2 : Int) ∧ Own 3 w' w.heap.size w'.heap.size A (runR r ds).1) ∨ (railV r = false ∧ m = 0 ∧ n = 0)) ∧ Below w.heap.size w w'

set_option maxHeartbeats 1600000 in
theorem dr_impl (A B : Option Addr) (r : List Int) (ds : List DriveV) (c d : Nat) (w : World) (ha : Rd w A r) (hb : RdDrive w B ds) (hl : r.length ≤ 1048576) (hm : ds.length ≤ 1048576) :
    Calls Try.prog 23 #[.slice A r.length c, .slice B ds.length d] w (DroveRun r ds w) := by
  cases hv : railV r
  · have HQ := Lib.hid (rv_is (c := c) ha hl hv)
    have HV := Lib.hid hv
    clear hv
    go_enter Try.func23, Try.ntmps23
    go_wp2_with (go_at_call 13; refine HQ.out.mono ?_; rintro e w' ⟨rfl, rfl⟩)
    go_ret2
    exact ⟨none, 0, 0, 0, rfl, .inr ⟨HV.out, rfl, rfl⟩, Below.refl _ _⟩
  · have HQ := Lib.hid (rv_is (c := c) ha hl hv)
    have HV := Lib.hid hv
    obtain ⟨_, l1, l4⟩ := railV_spec hv
    clear hv
    go_enter Try.func23, Try.ntmps23
    go_wp2_with (go_at_call 13; refine HQ.out.mono ?_; rintro e w' ⟨rfl, rfl⟩)
    refine (clone_any A r c _ ha hl).mono ?_
    rintro e w1 ⟨A1, c1, rfl, hc1, o1, b1⟩
    go_wp2_with fail
    go_loopw [7, 17] (fun n i wr => ∃ (k m : Nat) (s : List Int), k ≤ ds.length ∧ i = .int .i64 k ∧ n = .int .i64 m ∧ m ≤ k ∧ Hid (runR r (ds.take k) = (s, m)) ∧ Own 3 wr w.heap.size w1.heap.size A1 s ∧ Below w.heap.size w wr ∧ w1.heap.size ≤ wr.heap.size) (fun _ i _ => ds.length - (intOf i).toNat)
    case atStart => exact ⟨0, 0, r, by omega, rfl, rfl, by omega, rfl, o1, b1, Nat.le_refl _⟩
    case round =>
      obtain ⟨k, m, s, hk, rfl, rfl, hmk, HR, ho, hbw, hsz⟩ := hrel
      have HP := Lib.hid (runR_props (r := r) ds HV.out k)
      by_cases hlt : k < ds.length
      · obtain ⟨b, off, x, rfl, hbx, Hx, hx0, hx1⟩ := (hb.below hbw).at_ hlt
        have HL : Hid (s.length = r.length) := by have h := HP.out.2.1; rw [HR.out] at h; exact h
        have HN : Hid (runR r (ds.take (k + 1)) = stepR (s, m) x) := by show _ = _; rw [runR_next Hx.out, HR.out]
        have HC : Hid (∀ W, Own 3 W w.heap.size w1.heap.size A1 s → w1.heap.size ≤ W.heap.size → Calls Try.prog 39 #[.slice A1 r.length c1, .agg #[.int .i64 x.crane, .int .i64 x.to]] W fun e w' => e = .returned (.bool (driveV s x.crane x.to)) ∧ Own 3 w' w.heap.size w1.heap.size A1 (driveTo s x.crane x.to) ∧ Chg w.heap.size w1.heap.size W w') := fun W ho hW => by
          have h := drive_any _ _ A1 s c1 x.crane x.to W ho hW (by rw [HL.out]; exact hl)
          rw [HL.out] at h
          exact h
        have hoo := ho.below ((Below.refl wr.heap.size wr).alloc (Nat.le_refl _) (.cells #[.int .i64 x.crane, .int .i64 x.to] 30)) hsz
        cases hvv : driveV s x.crane x.to
        · have HN2 : Hid (runR r (ds.take (k + 1)) = (s, m)) := by show _ = _; rw [HN.out]; simp [stepR, hvv, driveTo]
          have HC2 : Hid (∀ W, Own 3 W w.heap.size w1.heap.size A1 s → w1.heap.size ≤ W.heap.size → Calls Try.prog 39 #[.slice A1 r.length c1, .agg #[.int .i64 x.crane, .int .i64 x.to]] W fun e w' => e = .returned (.bool false) ∧ Own 3 w' w.heap.size w1.heap.size A1 s ∧ Chg w.heap.size w1.heap.size W w') := fun W ho hW => by
            have h := HC.out W ho hW
            rw [show driveTo s x.crane x.to = s from by simp [driveTo, hvv], hvv] at h
            exact h
          clear hvv
          go_wp2_with fail
          refine (HC2.out _ hoo (by simp; omega)).mono ?_
          rintro e w2 ⟨rfl, o2, g2⟩
          have hs2 := g2.size
          go_wp2_with fail
          simp at hs2
          exact ⟨⟨k + 1, m, s, by omega, by go_num, rfl, by omega, HN2.out, o2, (hbw.alloc hbw.size _).trans (g2.below (Nat.le_refl _) (by have := hbw.size; simp; omega)), by omega⟩, by simp [intOf]; omega⟩
        · have HN2 : Hid (runR r (ds.take (k + 1)) = (driveTo s x.crane x.to, m + 1)) := by show _ = _; rw [HN.out]; simp [stepR, hvv]
          have HC2 : Hid (∀ W, Own 3 W w.heap.size w1.heap.size A1 s → w1.heap.size ≤ W.heap.size → Calls Try.prog 39 #[.slice A1 r.length c1, .agg #[.int .i64 x.crane, .int .i64 x.to]] W fun e w' => e = .returned (.bool true) ∧ Own 3 w' w.heap.size w1.heap.size A1 (driveTo s x.crane x.to) ∧ Chg w.heap.size w1.heap.size W w') := fun W ho hW => by
            have h := HC.out W ho hW
            rw [hvv] at h
            exact h
          clear hvv
          go_wp2_with fail
          refine (HC2.out _ hoo (by simp; omega)).mono ?_
          rintro e w2 ⟨rfl, o2, g2⟩
          have hs2 := g2.size
          go_wp2_with fail
          simp at hs2
          exact ⟨⟨k + 1, m + 1, _, by omega, by go_num, by go_num, by omega, HN2.out, o2, (hbw.alloc hbw.size _).trans (g2.below (Nat.le_refl _) (by have := hbw.size; simp; omega)), by omega⟩, by simp [intOf]; omega⟩
      · go_wp2_with fail
        go_ret2
        have hr : runR r ds = (s, m) := by rw [← runR_end r ds k (by omega)]; exact HR.out
        exact ⟨A1, r.length, c1, _, rfl, .inl ⟨HV.out, rfl, by rw [hr], by rw [hr]; exact ho.wide (Nat.le_refl _) hsz⟩, hbw⟩

set_option maxHeartbeats 1600000 in
theorem dr_spec (A B : Option Addr) (r : List Int) (ds : List DriveV) (c d : Nat) (w : World) (ha : Rd w A r) (hb : RdDrive w B ds) (hl : r.length ≤ 1048576) (hm : ds.length ≤ 1048576) :
    Calls Try.prog 21 #[.slice A r.length c, .slice B ds.length d] w (DroveRun r ds w) := by
  obtain ⟨i0, hi, hz0, hz1, hz2⟩ := info_parts info_int
  cases hv : railV r
  · have HQ := Lib.hid (rs_is (c := c) ha hl hv)
    have HV := Lib.hid hv
    clear hv
    go_enter Try.func21, Try.ntmps21
    go_wp2_with fail
    refine HQ.out.mono ?_
    rintro e w1 ⟨rfl, n, rfl⟩
    go_wp2_with fail
    go_ret2
    exact ⟨_, 0, 0, 0, rfl, .inr ⟨HV.out, rfl, rfl⟩, (below_draws n).alloc (by simp) _⟩
  · have HQ := Lib.hid (rs_is (c := c) ha hl hv)
    have HV := Lib.hid hv
    obtain ⟨_, l1, l4⟩ := railV_spec hv
    clear hv
    obtain ⟨b, off, rfl⟩ := ha.some_ l1
    go_enter Try.func21, Try.ntmps21
    go_wp2_with fail
    refine HQ.out.mono ?_
    rintro e w1 ⟨rfl, n, rfl⟩
    go_wp2_with (at_builtin; refine wpList_append_own _ rfl _ _ 22 rfl w.heap.size 3 i0 (.int .i64 0) 1 8 Try.underlying22 hi hz0 hz1 hz2 rfl (by decide) _ 0 [] rfl (World.ownsRow_lit (w.drewN n) #[] 0 (Nat.le_refl _) (by unfold maxLen; omega) rfl) ⟨b, off, none⟩ r.length c (r.map (Value.int .i64)) rfl (by simp) ((ha.drewN n).news (cell_alloc_old _)) (ints_oneCell .i64 r) ?c3 ?c4 ?c5 ?_)
    case c3 => unfold maxLen; omega
    case c4 => omega
    case c5 => simp
    intro v1 w1 hown1 hgrow _
    have K1 : w1.ownsRow w.heap.size 3 1 v1 r.length (r.map (Value.int .i64)) := by simpa using hown1
    have b1 : Below w.heap.size w w1 := ((below_draws n).alloc (Nat.le_refl _) _).grown hgrow (by simp) (fun k e => by simp [Value.ownBlock] at e; omega)
    obtain ⟨A1, c1, rfl, hc1⟩ := own_slice K1
    have o1 : Own 3 w1 w.heap.size w1.heap.size A1 r := Own.of_row K1 (Nat.le_refl _)
    clear hown1 hgrow K1
    go_wp2_with fail
    go_loopw [6, 7, 8] (fun v n i wr => ∃ (k m : Nat) (s : List Int) (A' : Option Addr) (c' : Nat), k ≤ ds.length ∧ i = .int .i64 k ∧ n = .int .i64 m ∧ m ≤ k ∧ v = .slice A' r.length c' ∧ Hid (runR r (ds.take k) = (s, m)) ∧ Own 3 wr w.heap.size wr.heap.size A' s ∧ Below w.heap.size w wr) (fun _ _ i _ => ds.length - (intOf i).toNat)
    case atStart => exact ⟨0, 0, r, A1, c1, by omega, rfl, rfl, by omega, rfl, rfl, o1, b1⟩
    case round =>
      obtain ⟨k, m, s, A', c', hk, rfl, rfl, hmk, rfl, HR, ho, hbw⟩ := hrel
      have HP := Lib.hid (runR_props (r := r) ds HV.out k)
      by_cases hlt : k < ds.length
      · obtain ⟨b2, off2, x, rfl, hbx, Hx, hx0, hx1⟩ := (hb.below hbw).at_ hlt
        have q0 : (0 : Int) ≤ (k : Int) := by omega
        have q1 : (k : Int) < (ds.length : Int) := by omega
        have HL : Hid (s.length = r.length) := by have h := HP.out.2.1; rw [HR.out] at h; exact h
        have HSV : Hid (railV s = true) := by have h := HP.out.1; rw [HR.out] at h; exact h
        have HN : Hid (runR r (ds.take (k + 1)) = stepR (s, m) x) := by show _ = _; rw [runR_next Hx.out, HR.out]
        have HC : Hid (Calls Try.prog 15 #[.slice A' r.length c', .agg #[.int .i64 x.crane, .int .i64 x.to]] wr (DroveDo s x.crane x.to wr)) := by
          have h := dd_spec A' s c' x.crane x.to wr ho.rd (by rw [HL.out]; exact hl)
          rw [HL.out] at h
          exact h
        go_wp2_with fail
        refine HC.out.mono ?_
        rintro e w2 ⟨A2, m2, c2, bb, rfl, hcase, b2'⟩
        rcases hcase with ⟨_, hm2, hbb, o2⟩ | ⟨hf, _⟩
        · have HM2 : Hid (m2 = r.length) := by show _ = _; rw [hm2, HL.out]
          cases bb
          · have HN2 : Hid (runR r (ds.take (k + 1)) = (s, m)) := by show _ = _; rw [HN.out]; simp [stepR, ← hbb, driveTo]
            clear hbb hm2
            have o3 := ho.below b2' (Nat.le_refl _)
            go_wp2_with fail
            exact ⟨⟨k + 1, m, s, A', c', by omega, by go_num, rfl, by omega, rfl, HN2.out, o3.wide (Nat.le_refl _) b2'.size, hbw.trans (b2'.mono hbw.size)⟩, by simp [intOf]; omega⟩
          · have HN2 : Hid (runR r (ds.take (k + 1)) = (driveTo s x.crane x.to, m + 1)) := by show _ = _; rw [HN.out]; simp [stepR, ← hbb]
            clear hbb hm2
            go_wp2_with fail
            exact ⟨⟨k + 1, m + 1, _, A2, c2, by omega, by go_num, by go_num, by omega, by rw [HM2.out], HN2.out, o2.wide hbw.size (Nat.le_refl _), hbw.trans (b2'.mono hbw.size)⟩, by simp [intOf]; omega⟩
        · exact absurd (hf.symm.trans HSV.out) (by decide)
      · go_wp2_with fail
        go_ret2
        have hr : runR r ds = (s, m) := by rw [← runR_end r ds k (by omega)]; exact HR.out
        exact ⟨A', r.length, c', _, rfl, .inl ⟨HV.out, rfl, by rw [hr], by rw [hr]; exact ho⟩, hbw⟩
end Go.Proofs.Ytiffcnhmlmblhaa
