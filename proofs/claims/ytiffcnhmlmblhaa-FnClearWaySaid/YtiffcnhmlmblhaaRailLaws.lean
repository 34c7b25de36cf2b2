/- The laws on rails: what each draws, and that it answers true. -/
import Derived.Test.YtiffcnhmlmblhaaRailDraw
import Derived.Test.YtiffcnhmlmblhaaExRail
import Derived.Test.YtiffcnhmlmblhaaRailClear
import Derived.Test.YtiffcnhmlmblhaaSameInt
import Derived.Test.YtiffcnhmlmblhaaAlive
namespace Go.Proofs.Ytiffcnhmlmblhaa
open Go.RowKit
set_option linter.unusedVariables false

theorem Rd.tail {w : World} {b off : Nat} {l : List Int} (h : Rd w (some ⟨b, off, none⟩) l) (n : Nat) : Rd w (some ⟨b, off + n, none⟩) (l.drop n) := by
  intro k x hx
  rw [List.getElem?_drop] at hx
  obtain ⟨b', off', e, hb, hc⟩ := h _ x hx
  injection e with e
  injection e with e1 e2 e3
  subst e1 e2
  exact ⟨b, off + n, rfl, hb, by rw [Nat.add_assoc]; exact hc⟩

theorem quiet_add {P : Program} {f : FuncId} {args : Array Value} {w : World} {a n : Nat} {v : Value}
    (h : Calls P f args (w.drewN (a + n)) fun e w' => e = .returned v ∧ ∃ m, w' = (w.drewN (a + n)).drewN m) :
    Calls P f args (w.drewN (a + n)) fun e w'' => e = .returned v ∧ ∃ m, w'' = w.drewN (a + m) :=
  h.mono fun _ _ ⟨he, m, hm⟩ => ⟨he, n + m, by rw [hm, World.drewN_drewN, Nat.add_assoc]⟩
def RailList (w : World) (A : Option Addr) (l : List Int) (c : Nat) : Prop := l.length ≤ 5 ∧ l.length ≤ c ∧ Rd w A l
def GotRail (w : World) (e : Ending) (w' : World) : Prop := ∃ A l c, RailList w' A l c ∧ e = .returned (.slice A l.length c) ∧ Below w.heap.size w w'
def GotRailDrive (w : World) (e : Ending) (w' : World) : Prop := ∃ A l c a b, RailList w' A l c ∧ 0 ≤ a ∧ a ≤ 100 ∧ -1 ≤ b ∧ b ≤ 22 ∧ e = .returned (.tuple #[.slice A l.length c, .agg #[.int .i64 a, .int .i64 b]]) ∧ Below w.heap.size w w'
def GotRailTo (w : World) (e : Ending) (w' : World) : Prop := ∃ A l c a b, RailList w' A l c ∧ 0 ≤ a ∧ a ≤ 100 ∧ -1 ≤ b ∧ b ≤ 22 ∧ e = .returned (.tuple #[.slice A l.length c, .int .i64 a, .int .i64 b]) ∧ Below w.heap.size w w'
def GotRailRun (w : World) (e : Ending) (w' : World) : Prop := ∃ A l c B ds d, RailList w' A l c ∧ ds.length ≤ 16 ∧ ds.length ≤ d ∧ RdDrive w' B ds ∧ e = .returned (.tuple #[.slice A l.length c, .slice B ds.length d]) ∧ Below w.heap.size w w'

section
variable {A : Option Addr} {l : List Int} {c : Nat}
set_option maxHeartbeats 400000 in
theorem drawRV (w : World) (ha : RdU w A l) (hc : l.length ≤ c) (hl : l.length ≤ 1048576) : Calls Try.prog 29 #[.slice A l.length c] w (GotRail w) := by
  go_enter Try.func29, Try.ntmps29
  go_wp2_with fail
  refine (open_any w ha hc hl).mono ?_
  rintro e w1 ⟨g, rfl, r1, b1⟩
  go_wp2_with fail
  refine (rail_any w.heap.size g 0 2 w1 r1 (by omega) (by omega) (by omega)).mono ?_
  rintro e w2 ⟨A2, l2, c2, rfl, t1, t2, t3, t4, d2⟩
  go_wp2_with fail
  go_ret
  exact ⟨A2, l2, c2, ⟨t1, t2, t4.rd⟩, rfl, b1.trans (d2.below b1.size)⟩
set_option maxHeartbeats 400000 in
theorem drawDD (w : World) (ha : RdU w A l) (hc : l.length ≤ c) (hl : l.length ≤ 1048576) : Calls Try.prog 31 #[.slice A l.length c] w (GotRailDrive w) := by
  go_enter Try.func31, Try.ntmps31
  go_wp2_with fail
  have hblk := Blk.new w 30 #[.int .i64 0, .int .i64 0]
  have bw : Below w.heap.size w (w.alloc (.cells #[.int .i64 0, .int .i64 0] 30)) := (Below.refl _ _).alloc (Nat.le_refl _) _
  refine (open_any _ (ha.alloc _) hc hl).mono ?_
  rintro e w1 ⟨g, rfl, r1, b1⟩
  go_wp2_with fail
  refine (rail_any _ g 0 9 w1 r1 (by omega) (by omega) (by omega)).mono ?_
  rintro e w2 ⟨A2, l2, c2, rfl, t1, t2, t3, t4, d2⟩
  have hg := r1.lt
  go_wp2_with fail
  refine (drive_draw _ g _ A2 l2.length c2 w2 d2.rdr (by omega) t1).mono ?_
  rintro e w3 ⟨a, b, a0, a9, b0, b9, rfl, d3⟩
  have bb := b1.trans ((d2.trans d3).below b1.size)
  have hb3 := hblk.below bb (by simp)
  have hc0 := hb3.cell 0
  have hc1 := hb3.cell 1
  simp at hc0 hc1
  have hf0 := hb3.frozen 0
  have hf1 := hb3.frozen 1
  have hsz := bb.size
  have k1 := b1.size
  have k2 := d2.chg.size
  have k3 := d3.chg.size
  simp at hsz k1
  have HB := Lib.hid (bw.trans (bb.mono (by simp)))
  have o4 := t4.chg d3.chg (.inr (by omega))
  go_wp2_with fail
  have HO : Hid (Rd ((w3.setCell ⟨w.heap.size, 0, none⟩ (.int .i64 a)).setCell ⟨w.heap.size, 1, none⟩ (.int .i64 b)) A2 l2) :=
    (o4.chg (((Chg.refl w.heap.size (w.heap.size + 1) w3).setCell (p := ⟨w.heap.size, 0, none⟩) (Nat.le_refl _) (by simp) _).setCell (p := ⟨w.heap.size, 1, none⟩) (Nat.le_refl _) (by simp) _) (.inr (by omega))).rd
  refine bodyPost_ret (v := .tuple #[.slice A2 l2.length c2, .agg #[.int .i64 a, .int .i64 b]]) (by simp [results, Try.results31, go_sem, hc0, hc1]) rfl ?_
  exact ⟨A2, l2, c2, a, b, ⟨t1, t2, HO.out⟩, a0, a9, b0, b9, rfl, (HB.out.setCell (Nat.le_refl _) _).setCell (Nat.le_refl _) _⟩
set_option maxHeartbeats 400000 in
theorem drawCW (w : World) (ha : RdU w A l) (hc : l.length ≤ c) (hl : l.length ≤ 1048576) : Calls Try.prog 34 #[.slice A l.length c] w (GotRailTo w) := by
  go_enter Try.func34, Try.ntmps34
  go_wp2_with fail
  refine (open_any _ ha hc hl).mono ?_
  rintro e w1 ⟨g, rfl, r1, b1⟩
  go_wp2_with fail
  refine (rail_any _ g 0 12 w1 r1 (by omega) (by omega) (by omega)).mono ?_
  rintro e w2 ⟨A2, l2, c2, rfl, t1, t2, t3, t4, d2⟩
  have hg := r1.lt
  go_wp2_with fail
  refine (drive_draw _ g _ A2 l2.length c2 w2 d2.rdr (by omega) t1).mono ?_
  rintro e w3 ⟨a, b, a0, a9, b0, b9, rfl, d3⟩
  have o4 := t4.chg d3.chg (.inr (by omega))
  have HO := Lib.hid (o4.rd.alloc (.cells #[.int .i64 a, .int .i64 b] 30))
  have HB := Lib.hid (b1.trans ((d2.trans d3).below b1.size))
  go_wp2_with fail
  go_quiet (fail)
  go_wp2
  go_ret3
  exact ⟨A2, l2, c2, a, b, ⟨t1, t2, HO.out.drewN _⟩, a0, a9, b0, b9, rfl, below_drewN (HB.out.alloc HB.out.size _) _⟩
set_option maxHeartbeats 800000 in
theorem drawDR (w : World) (ha : RdU w A l) (hc : l.length ≤ c) (hl : l.length ≤ 1048576) : Calls Try.prog 33 #[.slice A l.length c] w (GotRailRun w) := by
  obtain ⟨i0, hi, hz0, hz1, hz2⟩ := info_parts info_Drive
  go_enter Try.func33, Try.ntmps33
  go_wp2_with fail
  refine (open_any _ ha hc hl).mono ?_
  rintro e w1 ⟨g, rfl, r1, b1⟩
  go_wp2_with fail
  refine (rail_any _ g 0 12 w1 r1 (by omega) (by omega) (by omega)).mono ?_
  rintro e w2 ⟨A2, l2, c2, rfl, t1, t2, t3, t4, d2⟩
  have hg := r1.lt
  have k2 := d2.chg.size
  go_wp2_with fail
  refine (pick_any _ g _ 16 _ (d2.rdr.alloc _) (by omega) (by omega) (by omega)).mono ?_
  rintro e w3 ⟨x, x0, xn, rfl, hd3, Hs3⟩
  have d3 : Drawn w.heap.size g (0 + 20 + 1) w2 w3 := ((Drawn.refl d2.rdr).alloc _).trans hd3
  go_wp2_with fail
  go_loopw [6, 7] (fun v i wr => ∃ (k : Nat) (ds : List DriveV), i = .int .i64 k ∧ ds.length + k ≤ 16 ∧ Gath wr w2.heap.size v ds ∧ Drawn w.heap.size g (21 + ds.length * 4) w2 wr) (fun _ i _ => (intOf i).toNat)
  case atStart =>
    obtain ⟨k, hk⟩ := Int.eq_ofNat_of_zero_le x0
    exact ⟨k, [], by rw [hk], by simp; omega, row_chg (World.ownsRow_lit w2 #[] 0 (Nat.le_refl _) (by unfold maxLen; omega) rfl) hd3.chg (by omega), d3⟩
  case round =>
    obtain ⟨k, ds, rfl, hk, hown, hd⟩ := hrel
    have o4 := t4.chg hd.chg (.inr (by omega))
    by_cases hlt : 0 < k
    · obtain ⟨k', hk'⟩ : ∃ k' : Nat, k = k' + 1 := ⟨k - 1, by omega⟩
      have HK := Lib.hid hk'
      clear hk'
      go_wp2_with fail
      refine (drive_draw _ g _ A2 l2.length c2 wr hd.rdr (by omega) t1).mono ?_
      rintro e w4 ⟨a, b, a0, a9, b0, b9, rfl, d4⟩
      have hown4 := row_chg hown d4.chg (by omega)
      have hb := hown4.lt
      go_wp2_with (at_builtin; refine wpList_append_own _ rfl _ _ 38 rfl w2.heap.size 30 i0 (.agg #[.int .i64 0, .int .i64 0]) 2 16 Try.underlying38 hi hz0 hz1 hz2 rfl (by decide) _ _ _ rfl (hown4.alloc _) ⟨w4.heap.size, 0, none⟩ 1 1 [.int .i64 a, .int .i64 b] rfl rfl ?c1 ?c2 ?c3 ?c4 ?c5 ?_)
      case c1 => exact cells_two_new _ _ _ _
      case c2 => intro u hu; simp at hu; rcases hu with rfl | rfl <;> rfl
      case c3 => unfold maxLen; omega
      case c4 => omega
      case c5 => have := hd.chg.size; have := d4.chg.size; simp; omega
      intro v' w5 hown5 hgrow _
      have hg5 : Gath w5 w2.heap.size v' (ds ++ [⟨a, b⟩]) := Gath.push hown5
      have hd5 := ((hd.trans d4).alloc (.cells #[.int .i64 a, .int .i64 b] 30)).grown hgrow (by omega) (fun b e => (hb b e).1)
      clear hown5 hgrow
      go_wp2_with fail
      have h1 := HK.out
      exact ⟨⟨k', ds ++ [⟨a, b⟩], by rw [h1]; go_num, by simp; omega, hg5, hd5.more (by simp; omega)⟩, by simp [intOf]; omega⟩
    · obtain ⟨B, d, rfl, hcd⟩ := own_slice hown
      have HR : Hid (RdDrive wr B ds) := RdDrive.of_rd (Own.of_row hown (Nat.le_refl _)).rd
      have HB := Lib.hid (b1.trans ((d2.trans hd).below b1.size))
      go_wp2_with fail
      go_ret2
      exact ⟨A2, l2, c2, B, ds, d, ⟨t1, t2, o4.rd⟩, by omega, hcd, HR.out, rfl, HB.out⟩

theorem railOk_drop {r : List Int} {i : Nat} (h : railOk r (i + 1)) : railOk (r.drop 1) i := by
  have e : ∀ j, (r.drop 1).getD j 0 = r.getD (j + 1) 0 := fun j => by simp [Nat.add_comm]
  refine ⟨by rw [e]; exact h.1, by rw [e]; exact h.2.1, fun hi => ?_⟩
  have := h.2.2 (by omega)
  rw [e, e, show i - 1 + 1 = i + 1 - 1 from by omega]
  exact this
theorem railV_tail {r : List Int} (h : railV r = true) (h2 : 2 ≤ r.length) : railV (r.drop 1) = true := by
  obtain ⟨a, b, c⟩ := railV_spec h
  exact railV_of (fun i hi => railOk_drop (a (i + 1) (by simp at hi; omega))) (by simp; omega) (by simp; omega)
theorem railV_twice {r : List Int} {x : Int} (hx : r[0]? = some x) : railV (x :: r) = false := by
  have hl : 0 < r.length := (List.getElem?_eq_some_iff.1 hx).1
  refine railV_no (k := 1) (by simp; omega) (fun h => ?_)
  have := h.2.2 (by omega)
  have e : (x :: r).getD 1 0 = x := by simp [hx]
  rw [e] at this
  simp at this
  omega

set_option maxHeartbeats 1000000 in
theorem law_RailValid (w : World) (ha : RdU w A l) (hl : l.length ≤ 9223372036854775807) (hc : l.length ≤ c) :
    Calls Try.prog 7 #[.slice A l.length c] w fun e w' => e = .returned (.bool true) ∧ Below w.heap.size w w' := by
  obtain ⟨i0, hi, hz0, hz1, hz2⟩ := info_parts info_int
  by_cases hs : l.length ≤ 1048576
  · go_enter Try.func7, Try.ntmps7
    go_wp2_with fail
    refine (drawRV w ha hc hs).mono ?_
    rintro e w1 ⟨A2, l2, c2, ⟨t1, t2, t3⟩, rfl, b1⟩
    have TN := fun W : World => rv_is (A := none) (l := []) (c := 0) (w := W) (r := false) Rd.nil_ (by simp) (by decide)
    have HTN := Lib.hid TN
    clear TN
    go_wp2_with fail
    by_cases hv : railV l2 = true
    · have TI := Lib.hid (rv_is (c := c2) t3 (by omega) hv)
      have TS := Lib.hid (rs_is (c := c2) t3 (by omega) hv)
      obtain ⟨_, l1, l4⟩ := railV_spec hv
      refine TI.out.mono ?_
      rintro e w' ⟨rfl, rfl⟩
      go_wp2_with fail
      refine TS.out.mono ?_
      rintro e w2 ⟨rfl, n, rfl⟩
      by_cases h2 : 2 ≤ l2.length
      · obtain ⟨b, off, x, rfl, hbx, Hx, hcx⟩ := t3.at_ (k := 0) (by omega)
        rw [Nat.add_zero] at hcx
        have HV1 := Lib.hid (railV_tail hv h2)
        have HV2 := Lib.hid (railV_twice Hx.out)
        have hd1 : (l2.drop 1).length = l2.length - 1 := by simp
        have TT : Hid (∀ n, Calls Try.prog 13 #[.slice (some ⟨b, off + 1, none⟩) (l2.length - 1) (c2 - 1)] (w1.drewN n) fun e w' => e = .returned (.bool true) ∧ w1.drewN n = w') := fun n => by
          have h := rv_is (c := c2 - 1) ((t3.tail 1).drewN n) (by rw [hd1]; omega) HV1.out
          rwa [hd1] at h
        have hne : ¬ c2 = 1 := by omega
        have q1 : (1 : Int) ≤ (l2.length : Int) := by omega
        have q2 : (l2.length : Int) ≤ (c2 : Int) := by omega
        clear hv hd1
        go_wp2_with fail
        refine (TT.out n).mono ?_
        rintro e w' ⟨rfl, rfl⟩
        have m1 : 1 ≤ maxLen := by unfold maxLen; omega
        go_wp2_with (at_builtin; refine wpList_append_ownG (by first | rfl | simp [Region.wanted, yielded]) _ _ 22 rfl w1.heap.size 3 i0 (.int .i64 0) 1 8 Try.underlying22 hi hz0 hz1 hz2 rfl (by decide) _ 1 [.int .i64 x] rfl (World.ownsRow_lit (w1.drewN n) #[.int .i64 x] 1 (Nat.le_refl _) m1 rfl) ⟨b, off, none⟩ l2.length c2 (l2.map (Value.int .i64)) rfl (by simp) ((t3.drewN n).news (cell_alloc_old _)) (ints_oneCell .i64 l2) ?c3 ?c4 ?c5 ?_)
        case c3 => unfold maxLen; omega
        case c4 => omega
        case c5 => simp
        intro v3 w3 hown3 hgrow _
        have K3 : w3.ownsRow w1.heap.size 3 1 v3 (x :: l2).length ((x :: l2).map (Value.int .i64)) := by simpa [Nat.add_comm] using hown3
        have B3 := Lib.hid (b1.trans ((((below_draws n).alloc (Nat.le_refl _) _).grown hgrow (by simp) (fun k e => by simp [Value.ownBlock] at e; omega)).mono b1.size))
        obtain ⟨A3, c3, rfl, hc3⟩ := own_slice K3
        have TW : Hid (Calls Try.prog 13 #[.slice A3 (1 + l2.length) c3] w3 fun e w' => e = .returned (.bool false) ∧ w3 = w') := by
          have h := rv_is (c := c3) (Own.of_row K3 (Nat.le_refl _)).rd (by simp; omega) HV2.out
          rw [List.length_cons, Nat.add_comm] at h
          exact h
        clear hown3 hgrow K3
        go_wp2_with fail
        simp only [List.length_cons, Nat.add_comm] at TW ⊢
        refine TW.out.mono ?_
        rintro e w' ⟨rfl, rfl⟩
        go_wp2_with fail
        go_ret
        exact ⟨rfl, B3.out⟩
      · clear hv
        go_wp2_with fail
        refine (HTN.out _).mono ?_
        rintro e w' ⟨rfl, rfl⟩
        go_wp2_with fail
        refine (alive_any _).mono ?_
        rintro e w' ⟨rfl, rfl⟩
        go_wp2_with fail
        go_ret
        exact ⟨rfl, below_drewN b1 n⟩
    · have hv' : railV l2 = false := by simpa using hv
      have TI := Lib.hid (rv_is (c := c2) t3 (by omega) hv')
      have TS := Lib.hid (rs_is (c := c2) t3 (by omega) hv')
      clear hv hv'
      refine TI.out.mono ?_
      rintro e w' ⟨rfl, rfl⟩
      go_wp2_with fail
      refine TS.out.mono ?_
      rintro e w2 ⟨rfl, n, rfl⟩
      go_wp2_with fail
      refine (HTN.out _).mono ?_
      rintro e w' ⟨rfl, rfl⟩
      go_wp2_with fail
      refine (alive_any _).mono ?_
      rintro e w' ⟨rfl, rfl⟩
      go_wp2_with fail
      go_ret
      exact ⟨rfl, below_drewN b1 n⟩
  · go_enter Try.func7, Try.ntmps7
    go_wp2
    go_ret
    exact ⟨rfl, Below.refl _ _⟩

theorem ddVal_of {r : List Int} {cr t : Int} (h : railV r = true) : ddVal r cr t = (driveTo r cr t, driveV r cr t) := by rw [ddVal, if_pos h]

theorem driveV_spec {r : List Int} {cr t : Int} (h : driveV r cr t = true) : 0 ≤ cr ∧ cr < r.length ∧ railV (r.set cr.toNat t) = true := by
  simp [driveV] at h; exact ⟨h.1.1, h.1.2, h.2⟩
theorem ddVal_back {r : List Int} {i : Nat} {t x : Int} (hr : railV r = true) (h : driveV r i t = true) (hx : r[i]? = some x) : ddVal (r.set i t) i x = (r, true) := by
  obtain ⟨_, h2, h3⟩ := driveV_spec h
  obtain ⟨h4, h5⟩ := List.getElem?_eq_some_iff.1 hx
  simp only [Int.toNat_natCast] at h3
  have e : (r.set i t).set i x = r := by rw [List.set_set, ← h5]; exact List.set_getElem_self h4
  have hv : driveV (r.set i t) i x = true := by
    unfold driveV
    rw [Int.toNat_natCast, e, hr]
    simp; omega
  rw [ddVal_of h3]
  unfold driveTo
  rw [if_pos hv, Int.toNat_natCast, e, hv]

set_option maxHeartbeats 2000000 in
theorem law_DriveDo (w : World) (ha : RdU w A l) (hl : l.length ≤ 9223372036854775807) (hc : l.length ≤ c) :
    Calls Try.prog 8 #[.slice A l.length c] w fun e w' => e = .returned (.bool true) ∧ Below w.heap.size w w' := by
  by_cases hs : l.length ≤ 1048576
  · go_enter Try.func8, Try.ntmps8
    go_wp2_with fail
    refine (drawDD w ha hc hs).mono ?_
    rintro e w1 ⟨A2, l2, c2, cr, t, ⟨t1, t2, t3⟩, a0, a9, b0, b9, rfl, b1⟩
    go_wp2_with fail
    have hblk := Blk.new w1 30 #[.int .i64 cr, .int .i64 t]
    have bw : Below w1.heap.size w1 (w1.alloc (.cells #[.int .i64 cr, .int .i64 t] 30)) := (Below.refl _ _).alloc (Nat.le_refl _) _
    have t3' := t3.alloc (.cells #[.int .i64 cr, .int .i64 t] 30)
    have hD : w1.heap.size < (w1.alloc (.cells #[.int .i64 cr, .int .i64 t] 30)).heap.size := by simp
    generalize hW : w1.alloc (.cells #[.int .i64 cr, .int .i64 t] 30) = W at *
    generalize hDD : w1.heap.size = D at *
    clear hW
    have hc0 := hblk.cell 0
    have hc1 := hblk.cell 1
    simp at hc0 hc1
    obtain ⟨L, b, HV⟩ : ∃ L b, Hid (ddVal l2 cr t = (L, b)) := ⟨_, _, rfl⟩
    have hL : L.length ≤ 5 := by have := ddVal_length l2 cr t; rw [HV.out] at this; exact Nat.le_trans this t1
    refine (dd_val (dd_impl A2 l2 c2 cr t _ t3' (by omega)) HV.out).mono ?_
    rintro e w3 ⟨A3, c3, rfl, o3, b3⟩
    have hc0 := (hblk.below b3 hD).cell 0
    have hc1 := (hblk.below b3 hD).cell 1
    simp at hc0 hc1
    go_wp2_with fail
    refine (dd_val (dd_spec A2 l2 c2 cr t _ (t3'.below b3) (by omega)) HV.out).mono ?_
    rintro e w4 ⟨A4, c4, rfl, o4, b4⟩
    have b34 := b3.trans (b4.mono b3.size)
    have hc0 := (hblk.below b34 hD).cell 0
    have hc1 := (hblk.below b34 hD).cell 1
    simp at hc0 hc1
    have o3 := o3.below b4 (Nat.le_refl _)
    have t34 := t3'.below b34
    have BB := b1.trans ((bw.trans (b34.mono (by omega))).mono (by rw [← hDD]; exact b1.size))
    have HBB := Lib.hid BB
    go_wp2_with fail
    refine (sameInts_any A3 A4 L L _ _ _ o3.rd o4.rd (by omega) (by omega)).mono ?_
    rintro e w5 ⟨rfl, n5, rfl⟩
    have o3 := o3.rd.drewN n5
    have t5 := t34.drewN n5
    cases b
    · have HC : Hid ((L = l2) ∨ L = []) := by
        have h := HV.out
        cases hv : railV l2
        · rw [ddVal, if_neg (by rw [hv]; decide)] at h
          exact .inr (Prod.mk.inj h).1.symm
        · rw [ddVal_of hv] at h
          obtain ⟨e1, e2⟩ := Prod.mk.inj h
          exact .inl (by rw [← e1, driveTo, e2]; rfl)
      go_wp2_with fail
      refine (sameInts_any A3 A2 L l2 _ _ _ o3 t5 (by omega) (by omega)).mono ?_
      rintro e w6 ⟨rfl, n6, rfl⟩
      rcases HC.out with rfl | rfl
      · go_wp2_with fail
        refine (alive_any _).mono ?_
        rintro e w' ⟨rfl, rfl⟩
        go_wp2_with fail
        go_ret
        exact ⟨rfl, below_drewN HBB.out _⟩
      · cases hd : decide (([] : List Int) = l2)
        all_goals
          clear hd
          go_wp2_with fail
          refine (alive_any _).mono ?_
          rintro e w' ⟨rfl, rfl⟩
          go_wp2_with fail
          go_ret
          exact ⟨rfl, below_drewN HBB.out _⟩
    · have hv : railV l2 = true := by
        have h := HV.out
        cases hv : railV l2
        · rw [ddVal, if_neg (by rw [hv]; decide)] at h
          exact absurd (Prod.mk.inj h).2 (by decide)
        · rfl
      have h := HV.out
      rw [ddVal_of hv] at h
      obtain ⟨e1, e2⟩ := Prod.mk.inj h
      obtain ⟨p0, p1, p2⟩ := driveV_spec e2
      obtain ⟨i, rfl⟩ := Int.eq_ofNat_of_zero_le p0
      have hi1 : i < l2.length := by omega
      obtain ⟨b, off, x, rfl, hbx, Hx, hcx⟩ := t5.at_ hi1
      have hcx : w4.cell? ⟨b, off + i, none⟩ = some (.int .i64 x) := hcx
      have HL : Hid (L = l2.set i t) := by show _ = _; rw [← e1, driveTo, if_pos e2]; rfl
      have HLn : Hid (L.length = l2.length) := by show _ = _; rw [HL.out, List.length_set]
      have HK := Lib.hid (ddVal_back hv e2 Hx.out)
      clear hv h e1 e2 p2 HV
      have HC := Lib.hid (fun (W' : World) (ho : Rd W' A3 L) => dd_val (f := 17) (L := l2) (b := true) (dd_impl A3 L c3 i x W' ho (by omega)) (by rw [HL.out]; exact HK.out))
      have q0 : (0 : Int) ≤ (i : Int) := by omega
      have hs5 : D < (w4.drewN n5).heap.size := Nat.lt_of_lt_of_le hD b34.size
      go_wp2_with fail
      go_region_held3 (fun w' => w'.cell? ⟨D, 0, none⟩ = some (.int .i64 (i : Int)) ∧ w'.cell? ⟨D, 1, none⟩ = some (.int .i64 t) ∧ w'.cell? ⟨b, off + i, none⟩ = some (.int .i64 x)) (first | go_keep | exact ⟨(b6.cell (p := ⟨D, 0, none⟩) hs5).trans hc0, (b6.cell (p := ⟨D, 1, none⟩) hs5).trans hc1, (b6.cell (p := ⟨b, off + i, none⟩) hbx).trans hcx⟩) (first | (go_at_call 17; refine (HC.out _ (by exact o3)).mono ?_; rintro e w6 ⟨A6, c6, rfl, o6, b6⟩))
      have b6 : Below w4.heap.size w4 w6 := (show Below w4.heap.size w4 (w4.drewN n5).drew from below_drewN (Below.refl _ _) (n5 + 1)).trans b6
      have hd0 : w6.cell? ⟨D, 0, none⟩ = some (.int .i64 (i : Int)) := (b6.cell (p := ⟨D, 0, none⟩) hs5).trans hc0
      have hd1 : w6.cell? ⟨D, 1, none⟩ = some (.int .i64 t) := (b6.cell (p := ⟨D, 1, none⟩) hs5).trans hc1
      have o36 : Rd w6 A3 L := (show Rd w4 A3 L from o3).below b6
      have t6 : Rd w6 (some ⟨b, off, none⟩) l2 := (show Rd w4 (some ⟨b, off, none⟩) l2 from t5).below b6
      have B6 := Lib.hid (HBB.out.trans (b6.mono HBB.out.size))
      clear hc0 hc1 hcx b6 o3 t5
      go_wp2_with fail
      go_loopw [11] (fun q wr => ∃ k n : Nat, k ≤ l2.length ∧ q = .int .i64 k ∧ wr = w6.drewN n) (fun q _ => l2.length - (intOf q).toNat)
      case atStart => exact ⟨0, 0, by omega, rfl, rfl⟩
      case round =>
        obtain ⟨k, n, hk, rfl, rfl⟩ := hrel
        by_cases hlt : k < l2.length
        · have r0 : (0 : Int) ≤ (k : Int) := by omega
          have r1 : (k : Int) < (l2.length : Int) := by omega
          by_cases hki : k = i
          · have hne : ((k : Int) != (i : Int)) = false := by simp [hki]
            clear hki
            go_wp2_with fail
            go_quiet (fail)
            go_wp2
            exact ⟨⟨k + 1, _, by omega, by go_num, rfl⟩, by simp [intOf]; omega⟩
          · have hne : ((k : Int) != (i : Int)) = true := by simp; omega
            obtain ⟨_, _, y, e, _, Hy, hcy⟩ := t6.at_ hlt
            injection e with e
            injection e with ea eb ec
            subst ea eb
            obtain ⟨g3, off3, z, rfl, _, Hz, hcz⟩ := o36.at_ (k := k) (by rw [HLn.out]; exact hlt)
            have r2 : (k : Int) < (L.length : Int) := by rw [HLn.out]; exact r1
            obtain rfl : z = y := by
              have h1 := Hz.out
              rw [HL.out, List.getElem?_set_ne (by omega), Hy.out] at h1
              injection h1 with h1; exact h1.symm
            go_wp2_with fail
            go_quiet (fail)
            go_wp2
            exact ⟨⟨k + 1, _, by omega, by go_num, rfl⟩, by simp [intOf]; omega⟩
        · have hiL : i < L.length := by rw [HLn.out]; exact hi1
          obtain ⟨g3, off3, z, rfl, _, Hz, hcz⟩ := o36.at_ hiL
          obtain rfl : z = t := by
            have h1 := Hz.out
            rw [HL.out, List.getElem?_set_self hi1] at h1
            injection h1 with h1; exact h1.symm
          have r2 : (i : Int) < (L.length : Int) := by omega
          have HS := Lib.hid (fun (m : Nat) => sameInts_any A6 (some ⟨b, off, none⟩) l2 l2 c6 c2 (w6.drewN m) (o6.rd.drewN m) (t6.drewN m) (by omega) (by omega))
          go_wp2_with fail
          go_quiet ((go_at_call 32; exact quiet_add ((HS.out _).mono (fun _ _ ⟨he, hw⟩ => ⟨he.trans (ret_bool (by simp : _ = true)), hw⟩))))
          go_wp2
          go_ret
          exact ⟨rfl, by first | exact below_drewN B6.out _ | exact below_drewN (below_drewN B6.out _) _⟩
  · go_enter Try.func8, Try.ntmps8
    go_wp2
    go_ret
    exact ⟨rfl, Below.refl _ _⟩

theorem bool_any {f : FuncId} {args : Array Value} {w : World} {x y : Bool} (h : Calls Try.prog f args w fun e w' => e = .returned (.bool x) ∧ w = w') (e : x = y) :
    Calls Try.prog f args w fun e w' => e = .returned (.bool y) ∧ w = w' := h.mono fun _ _ ⟨he, hw⟩ => ⟨he.trans (ret_bool e), hw⟩
theorem drVal_of {r : List Int} (ds : List DriveV) (h : railV r = true) : drVal r ds = ((runR r ds).1, ((runR r ds).2 : Int)) := by rw [drVal, if_pos h]
theorem drVal_props {r L : List Int} {ds : List DriveV} {m : Int} (h : railV r = true) (hv : drVal r ds = (L, m)) : railV L = true ∧ L.length = r.length ∧ 0 ≤ m ∧ m ≤ (ds.length : Int) := by
  rw [drVal_of ds h] at hv
  obtain ⟨rfl, rfl⟩ := Prod.mk.inj hv
  have hp := runR_props (r := r) ds h ds.length
  rw [runR_end r ds _ (Nat.le_refl _)] at hp
  exact ⟨hp.1, hp.2.1, by omega, by omega⟩

set_option maxHeartbeats 2000000 in
theorem law_DriveRun (w : World) (ha : RdU w A l) (hl : l.length ≤ 9223372036854775807) (hc : l.length ≤ c) :
    Calls Try.prog 9 #[.slice A l.length c] w fun e w' => e = .returned (.bool true) ∧ Below w.heap.size w w' := by
  by_cases hs : l.length ≤ 1048576
  · go_enter Try.func9, Try.ntmps9
    go_wp2_with fail
    refine (drawDR w ha hc hs).mono ?_
    rintro e w1 ⟨A2, l2, c2, B2, ds, d2, ⟨t1, t2, t3⟩, u1, u2, u3, rfl, b1⟩
    go_wp2_with fail
    obtain ⟨L, m, HV⟩ : ∃ L m, Hid (drVal l2 ds = (L, m)) := ⟨_, _, rfl⟩
    have hL : L.length ≤ 5 := by have := drVal_length l2 ds; rw [HV.out] at this; exact Nat.le_trans this t1
    refine (dr_val (dr_impl A2 B2 l2 ds c2 d2 _ t3 u3 (by omega) (by omega)) HV.out).mono ?_
    rintro e w3 ⟨A3, c3, rfl, o3, b3⟩
    go_wp2_with fail
    refine (dr_val (dr_spec A2 B2 l2 ds c2 d2 _ (t3.below b3) (u3.below b3) (by omega) (by omega)) HV.out).mono ?_
    rintro e w4 ⟨A4, c4, rfl, o4, b4⟩
    have o3 := o3.below b4 (Nat.le_refl _)
    have B4 := Lib.hid (b1.trans ((b3.trans (b4.mono b3.size)).mono b1.size))
    have t4 := (t3.below b3).below b4
    go_wp2_with fail
    refine (sameInts_any A3 A4 L L _ _ _ o3.rd o4.rd (by omega) (by omega)).mono ?_
    rintro e w5 ⟨rfl, n5, rfl⟩
    have o3 := o3.rd.drewN n5
    have t5 := t4.drewN n5
    cases hv : railV l2
    · have TS := Lib.hid (rs_is (c := c2) t5 (by omega) hv)
      have h := HV.out
      rw [drVal, if_neg (by rw [hv]; decide)] at h
      obtain ⟨rfl, rfl⟩ := Prod.mk.inj h
      clear hv h
      go_wp2_with fail
      refine TS.out.mono ?_
      rintro e w6 ⟨rfl, n6, rfl⟩
      go_wp2_with fail
      refine (alive_any _).mono ?_
      rintro e w' ⟨rfl, rfl⟩
      go_wp2_with fail
      go_ret
      exact ⟨rfl, by first | exact below_drewN B4.out _ | exact below_drewN (below_drewN B4.out _) _⟩
    · have TS := Lib.hid (rs_is (c := c2) t5 (by omega) hv)
      obtain ⟨hvL, hLl, m0, m9⟩ := drVal_props hv HV.out
      have HVL := Lib.hid hvL
      have HLl := Lib.hid hLl
      obtain ⟨hok, L1, L4⟩ := railV_spec hvL
      have HOK := Lib.hid hok
      clear hv hvL hLl hok
      go_wp2_with fail
      refine TS.out.mono ?_
      rintro e w6 ⟨rfl, n6, rfl⟩
      go_wp2_with fail
      go_loopw [9] (fun q wr => ∃ k n : Nat, 1 ≤ k ∧ k ≤ L.length ∧ q = .int .i64 k ∧ wr = w4.drewN n) (fun q _ => L.length - (intOf q).toNat)
      case atStart => exact ⟨1, n5 + n6, by omega, by omega, rfl, by first | rfl | exact World.drewN_drewN _ _ _⟩
      case round =>
        obtain ⟨k, n, hk1, hk, rfl, rfl⟩ := hrel
        by_cases hlt : k < L.length
        · obtain ⟨j, rfl⟩ : ∃ j, k = j + 1 := ⟨k - 1, by omega⟩
          have o4' : Rd w4 A3 L := o3
          obtain ⟨b, off, z, rfl, _, Hz, hcz⟩ := o4'.at_ hlt
          obtain ⟨_, _, y, e, _, Hy, hcy⟩ := o4'.at_ (k := j) (by omega)
          injection e with e
          injection e with ea eb ec
          subst ea eb
          have hg := (HOK.out (j + 1) hlt).2.2 (by omega)
          rw [getD_at Hz.out, show j + 1 - 1 = j from by omega, getD_at Hy.out] at hg
          have hz1 := (HOK.out (j + 1) hlt).1
          have hz2 := (HOK.out (j + 1) hlt).2.1
          rw [getD_at Hz.out] at hz1 hz2
          have hy1 := (HOK.out j (by omega)).1
          have hy2 := (HOK.out j (by omega)).2.1
          rw [getD_at Hy.out] at hy1 hy2
          have r0 : (0 : Int) ≤ (j : Int) := by omega
          have r1 : (j : Int) < (L.length : Int) := by omega
          have r2 : (j : Int) + 1 < (L.length : Int) := by omega
          have hd1 : decide (z - y < 2) = false := decide_eq_false (by omega)
          go_wp2_with fail
          go_quiet (fail)
          go_wp2
          exact ⟨⟨j + 2, _, by omega, by omega, by go_num, rfl⟩, by simp [intOf]; omega⟩
        · have TQ := Lib.hid (rv_is (c := c3) ((show Rd w4 A3 L from o3).drewN n) (by omega) HVL.out)
          have hb2 : ((L.length : Int) == (l2.length : Int)) = true := by have := HLl.out; simp [this]
          go_wp2_with fail
          refine TQ.out.mono ?_
          rintro e w7 ⟨rfl, rfl⟩
          go_wp2_with fail
          go_ret
          exact ⟨rfl, by first | exact below_drewN B4.out _ | exact below_drewN (below_drewN B4.out _) _⟩
  · go_enter Try.func9, Try.ntmps9
    go_wp2
    go_ret
    exact ⟨rfl, Below.refl _ _⟩

set_option maxHeartbeats 2000000 in
theorem law_ClearWay (w : World) (ha : RdU w A l) (hl : l.length ≤ 9223372036854775807) (hc : l.length ≤ c) :
    Calls Try.prog 10 #[.slice A l.length c] w fun e w' => e = .returned (.bool true) ∧ Below w.heap.size w w' := by
  by_cases hs : l.length ≤ 1048576
  · go_enter Try.func10, Try.ntmps10
    go_wp2_with fail
    refine (drawCW w ha hc hs).mono ?_
    rintro e w1 ⟨A2, l2, c2, cr, t, ⟨t1, t2, t3⟩, a0, a9, b0, b9, rfl, b1⟩
    go_wp2_with fail
    obtain ⟨L, b, HV⟩ : ∃ L b, Hid (cwVal l2 cr t = (L, b)) := ⟨_, _, rfl⟩
    have hL : L.length ≤ 16 := by have := cwVal_short l2 cr t; rw [HV.out] at this; exact this
    refine (cw_val (cw_impl A2 l2 c2 cr t _ t3 (by omega)) HV.out).mono ?_
    rintro e w3 ⟨A3, c3, rfl, o3, b3⟩
    go_wp2_with fail
    refine (cw_val (cw_spec A2 l2 c2 cr t _ (t3.below b3) (by omega)) HV.out).mono ?_
    rintro e w4 ⟨A4, c4, rfl, o4, b4⟩
    have o3 := o3.below b4 (Nat.le_refl _)
    have B4 := Lib.hid (b1.trans ((b3.trans (b4.mono b3.size)).mono b1.size))
    have t4 := (t3.below b3).below b4
    go_wp2_with fail
    refine (sameDrives_any A3 A4 L L _ _ _ (RdDrive.of_rd o3.rd) (RdDrive.of_rd o4.rd) (by omega) (by omega)).mono ?_
    rintro e w5 ⟨rfl, n5, rfl⟩
    have o5 : RdDrive (w4.drewN n5) A3 L := RdDrive.of_rd (o3.rd.drewN n5)
    have t5 := t4.drewN n5
    cases hk : clearOk l2 cr t
    · have h := HV.out
      rw [cwVal, if_neg (by rw [hk]; decide)] at h
      obtain ⟨rfl, rfl⟩ := Prod.mk.inj h
      clear hk h
      go_wp2_with fail
      refine (alive_any _).mono ?_
      rintro e w' ⟨rfl, rfl⟩
      go_wp2_with fail
      go_ret
      exact ⟨rfl, below_drewN B4.out _⟩
    · obtain ⟨cr, rfl⟩ := Int.eq_ofNat_of_zero_le a0
      obtain ⟨R, e1, e2, e3, e4⟩ := clears hk
      have h := HV.out
      rw [cwVal, if_pos hk] at h
      obtain ⟨h1, rfl⟩ := Prod.mk.inj h
      rw [Int.toNat_natCast] at h1
      rw [h1] at e1 e4
      have hv : railV l2 = true := by unfold clearOk at hk; simp only [Bool.and_eq_true] at hk; exact hk.1.1
      have HR := Lib.hid (p := drVal l2 L = (R, (L.length : Int))) (by rw [drVal_of L hv, e1])
      have HRl := Lib.hid e2
      have HRc := Lib.hid e3
      have HDV := Lib.hid e4
      have HDD := Lib.hid (ddVal_of (cr := (cr : Int)) (t := t) hv)
      have hRl : R.length ≤ 5 := by omega
      have hcr : cr < R.length := (List.getElem?_eq_some_iff.1 e3).1
      clear hk h h1 e1 e2 e3 e4 hv HV
      go_wp2_with fail
      refine (dr_val (dr_impl A2 A3 l2 L c2 c3 _ t5 o5 (by omega) (by omega)) HR.out).mono ?_
      rintro e w6 ⟨A6, c6, rfl, o6, b6⟩
      have B6 := Lib.hid ((below_drewN B4.out n5).trans (b6.mono (below_drewN B4.out n5).size))
      have t6 := t5.below b6
      obtain ⟨b, off, y, rfl, hby, Hy, hcy⟩ := o6.rd.at_ hcr
      obtain rfl : y = t := by have h := Hy.out; rw [HRc.out] at h; injection h with h; exact h.symm
      have hb1 : ((L.length : Int) != (L.length : Int)) = false := by simp
      have hb2 : ((R.length : Int) != (l2.length : Int)) = false := by have := HRl.out; simp [this]
      have q0 : (0 : Int) ≤ (cr : Int) := by omega
      have q1 : (cr : Int) < (R.length : Int) := by omega
      go_wp2_with fail
      by_cases h1 : L.length = 1
      · have hd : driveV l2 cr y = true := HDV.out.2 h1
        have hb3 : ((L.length : Int) == 1) = true := by simp [h1]
        have HC := Lib.hid (dd_val (f := 17) (dd_impl A2 l2 c2 cr y w6 t6 (by omega)) (by rw [HDD.out, hd]))
        clear h1 hd
        refine HC.out.mono ?_
        rintro e w7 ⟨A7, c7, rfl, o7, b7⟩
        go_wp2_with fail
        go_ret
        exact ⟨rfl, B6.out.trans (b7.mono B6.out.size)⟩
      · have hd : driveV l2 cr y = false := by
          rw [Bool.eq_false_iff]; exact fun h => h1 (HDV.out.1 h)
        have hb3 : ((L.length : Int) == 1) = false := beq_eq_false_iff_ne.2 (by omega)
        have HC := Lib.hid (dd_val (f := 17) (dd_impl A2 l2 c2 cr y w6 t6 (by omega)) (by rw [HDD.out, hd]))
        clear h1 hd
        refine HC.out.mono ?_
        rintro e w7 ⟨A7, c7, rfl, o7, b7⟩
        go_wp2_with fail
        go_ret
        exact ⟨rfl, B6.out.trans (b7.mono B6.out.size)⟩
  · go_enter Try.func10, Try.ntmps10
    go_wp2
    go_ret
    exact ⟨rfl, Below.refl _ _⟩
end
end Go.Proofs.Ytiffcnhmlmblhaa
