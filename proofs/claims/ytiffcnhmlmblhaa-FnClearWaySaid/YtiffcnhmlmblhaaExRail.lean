/- Each function on rails, called by its statement: the program's answer is the reference's, the arguments' copies read as before, and the result is memory of its own. -/
import Derived.Test.YtiffcnhmlmblhaaRail3
namespace Go.Proofs.Ytiffcnhmlmblhaa
open Go.RowKit
set_option linter.unusedVariables false

set_option maxHeartbeats 400000 in
theorem law_ExRailValid {A : Option Addr} {l : List Int} {c : Nat} (w : World) (ha : Rd w A l) (hl : l.length ≤ 9223372036854775807) :
    Calls Try.prog 3 #[.slice A l.length c] w fun e w' => e = .returned (.bool true) ∧ Below w.heap.size w w' := by
  by_cases hs : l.length ≤ 1048576
  · go_enter Try.func3, Try.ntmps3
    go_wp2_with fail
    refine (toIntS_any A l c _ ha hs).mono ?_
    rintro e w1 ⟨A1, rfl, o1, b1⟩
    go_wp2_with fail
    refine (rv_spec A1 l l.length _ o1.rd hs).mono ?_
    rintro e w1' ⟨rfl, n, rfl⟩
    go_wp2_with fail
    refine (toIntS_any A l c _ (ha.below (below_drewN b1 n)) hs).mono ?_
    rintro e w2 ⟨A2, rfl, o2, b2⟩
    have b2' := (below_drewN b1 n).trans (b2.mono b1.size)
    go_wp2_with fail
    refine (rv_impl A2 l l.length _ o2.rd hs).mono ?_
    rintro e w2' ⟨rfl, rfl⟩
    go_wp2_with fail
    refine (toIntS_any A l c _ (ha.below b2') hs).mono ?_
    rintro e w3 ⟨A3, rfl, o3, b3⟩
    go_wp2_with fail
    refine (eqIntS_any A2 A3 l l _ _ _ (o2.rd.below b3) o3.rd hs hs).mono ?_
    rintro e w4 ⟨rfl, n, rfl⟩
    go_wp2_with fail
    go_ret
    exact ⟨by simp, below_drewN (b2'.trans (b3.mono b2'.size)) n⟩
  · go_enter Try.func3, Try.ntmps3
    go_wp2
    go_ret
    exact ⟨rfl, Below.refl _ _⟩

/-- What DriveDo answers. -/
def ddVal (r : List Int) (cr t : Int) : List Int × Bool := if railV r = true then (driveTo r cr t, driveV r cr t) else ([], false)
def Answer (v : Value → Value) (L : List Int) (t : TypeId) (w : World) (e : Ending) (w' : World) : Prop :=
  ∃ A c, e = .returned (v (.slice A L.length c)) ∧ Own t w' w.heap.size w'.heap.size A L ∧ Below w.heap.size w w'
theorem dd_val {r L : List Int} {cr t : Int} {b : Bool} {f : FuncId} {args : Array Value} {w : World} (h : Calls Try.prog f args w (DroveDo r cr t w)) (hv : ddVal r cr t = (L, b)) :
    Calls Try.prog f args w (Answer (fun s => .tuple #[s, .bool b]) L 3 w) := by
  refine h.mono ?_
  rintro e w' ⟨A, m, c, b', rfl, hc, hb⟩
  rcases hc with ⟨h1, rfl, rfl, ho⟩ | ⟨h1, rfl, rfl⟩
  · rw [ddVal, if_pos h1] at hv
    obtain ⟨rfl, rfl⟩ := Prod.mk.inj hv
    exact ⟨A, c, by rw [driveTo_length], ho, hb⟩
  · rw [ddVal, if_neg (by rw [h1]; decide)] at hv
    obtain ⟨rfl, rfl⟩ := Prod.mk.inj hv
    exact ⟨A, c, rfl, Own.nil_, hb⟩
theorem ddVal_length (r : List Int) (cr t : Int) : (ddVal r cr t).1.length ≤ r.length := by unfold ddVal; split; (rw [driveTo_length]; exact Nat.le_refl _); exact Nat.zero_le _

set_option maxHeartbeats 2000000 in
theorem law_ExDriveDo {A : Option Addr} {l : List Int} {c : Nat} {cr t : Int} (w : World) (ha : Rd w A l) (hl : l.length ≤ 9223372036854775807) (h1 : -9223372036854775808 ≤ cr) (h2 : cr ≤ 9223372036854775807) (h3 : -9223372036854775808 ≤ t) (h4 : t ≤ 9223372036854775807) :
    Calls Try.prog 4 #[.slice A l.length c, .agg #[.int .i64 cr, .int .i64 t]] w fun e w' => e = .returned (.bool true) ∧ Below w.heap.size w w' := by
  by_cases hs : l.length ≤ 1048576
  · obtain ⟨L, b, HV⟩ : ∃ L b, Hid (ddVal l cr t = (L, b)) := ⟨_, _, rfl⟩
    have hL : L.length ≤ 1048576 := by have := ddVal_length l cr t; rw [HV.out] at this; exact Nat.le_trans this hs
    have hbx := Blk.new w 27 #[.int .i64 cr, .int .i64 t]
    have ha0 := ha.alloc (.cells #[.int .i64 cr, .int .i64 t] 27)
    have bw : Below w.heap.size w (w.alloc (.cells #[.int .i64 cr, .int .i64 t] 27)) := (Below.refl _ _).alloc (Nat.le_refl _) _
    have hg0 : w.heap.size < (w.alloc (.cells #[.int .i64 cr, .int .i64 t] 27)).heap.size := by simp
    have hc0 := hbx.cell 0
    have hc1 := hbx.cell 1
    simp only [List.getElem?_toArray, List.getElem?_cons_zero, List.getElem?_cons_succ] at hc0 hc1
    go_enter Try.func4, Try.ntmps4
    go_wp2_with fail
    generalize hW : w.alloc (.cells #[.int .i64 cr, .int .i64 t] 27) = W at *
    generalize hG : w.heap.size = g at *
    clear hbx hW
    go_region_held3 (fun w' => w'.cell? ⟨g, 0, none⟩ = some (.int .i64 cr) ∧ w'.cell? ⟨g, 1, none⟩ = some (.int .i64 t)) (first | exact ⟨(bw1.cell (p := ⟨g, 0, none⟩) hg0).trans hc0, (bw1.cell (p := ⟨g, 1, none⟩) hg0).trans hc1⟩ | go_keep) (first | (go_at_call 12; refine (toIntS_any A l c _ (by exact ha0) hs).mono ?_; rintro e w1 ⟨A1, rfl, o1, bw1⟩) | (go_at_call 16; refine (toDrive_any cr t _).mono ?_; rintro e w2 ⟨rfl, b2⟩; have bw1 := bw1.trans (b2.mono bw1.size)) | (go_at_call 15; refine (dd_val (dd_spec A1 l l.length cr t _ (o1.rd.below b2) hs) HV.out).mono ?_; rintro e w3 ⟨A3, c3, rfl, o3, b3⟩; have bw1 := bw1.trans (b3.mono bw1.size)))
    have bw1 : Below W.heap.size W w3 := (show Below W.heap.size W W.drew from (Below.refl _ _).drew).trans bw1
    have kW : W.heap.size ≤ w3.heap.size := bw1.size
    go_wp2_with fail
    refine (toIntS_any A l c _ (ha0.below bw1) hs).mono ?_
    rintro e w4 ⟨A4, rfl, o4, b4⟩
    have bw1 := bw1.trans (b4.mono bw1.size)
    have hc0 := (bw1.cell (p := ⟨g, 0, none⟩) hg0).trans hc0
    have hc1 := (bw1.cell (p := ⟨g, 1, none⟩) hg0).trans hc1
    have hg4 : g < w4.heap.size := Nat.lt_of_lt_of_le hg0 bw1.size
    go_wp2_with fail
    refine (toDrive_any cr t _).mono ?_
    rintro e w5 ⟨rfl, b5⟩
    go_wp2_with fail
    refine (dd_val (dd_impl A4 l l.length cr t _ (o4.rd.below b5) hs) HV.out).mono ?_
    rintro e w6 ⟨A6, c6, rfl, o6, b6⟩
    have o3 := o3.below (b4.trans ((b5.mono b4.size).trans (b6.mono (Nat.le_trans b4.size b5.size)))) (Nat.le_refl _)
    have o4 := o4.below (b5.trans (b6.mono b5.size)) (Nat.le_refl _)
    have bw6 := bw1.trans ((b5.trans (b6.mono b5.size)).mono bw1.size)
    have k3 : w3.heap.size ≤ w4.heap.size := b4.size
    have k5 : w4.heap.size ≤ w5.heap.size := b5.size
    have k6 : w5.heap.size ≤ w6.heap.size := b6.size
    clear b4 b5 b6 o1 bw1
    go_wp2_with fail
    refine (eqIntS_any A6 A3 L L _ _ _ o6.rd o3.rd hL hL).mono ?_
    rintro e w7 ⟨rfl, n7, rfl⟩
    go_wp2_with fail
    refine (toIntS_any A l c _ (ha0.below (below_drewN bw6 n7)) hs).mono ?_
    rintro e w8 ⟨A8, rfl, o8, b8⟩
    have b8 : Below w6.heap.size w6 w8 := (below_draws n7).trans b8
    have o3 := o3.below b8 (by omega)
    have o4 := o4.below b8 (by omega)
    have o6 := o6.below b8 (Nat.le_refl _)
    have bw8 := bw6.trans (b8.mono bw6.size)
    have k8 : w6.heap.size ≤ w8.heap.size := b8.size
    clear bw6 b8
    go_wp2_with fail
    refine (eqIntS_any A4 A8 l l _ _ _ o4.rd o8.rd hs hs).mono ?_
    rintro e w9 ⟨rfl, n9, rfl⟩
    go_wp2_with fail
    refine (markIntS_any w3.heap.size w4.heap.size A4 l _ 1 (w8.drewN n9) o4 hs (by omega) (by omega)).mono ?_
    rintro e w10 ⟨rfl, o10, g10⟩
    have g10 : Chg w3.heap.size w4.heap.size w8 w10 := (show Chg w3.heap.size w4.heap.size w8 (w8.drewN n9) from (Chg.refl _ _ _).drewN n9).trans g10
    have o3 := o3.chg g10 (.inl (Nat.le_refl _))
    have o6 := o6.chg g10 (.inr (by omega))
    have k10 : w8.heap.size ≤ w10.heap.size := g10.size
    go_wp2_with fail
    refine (eqIntS_any A6 A3 L L _ _ _ o6.rd o3.rd hL hL).mono ?_
    rintro e w11 ⟨rfl, n11, rfl⟩
    go_wp2_with fail
    refine (markIntS_any w5.heap.size w6.heap.size A6 L _ 1 (w10.drewN n11) o6 hL (by omega) (by omega)).mono ?_
    rintro e w12 ⟨rfl, o12, g12⟩
    have g12 : Chg w5.heap.size w6.heap.size w10 w12 := (show Chg w5.heap.size w6.heap.size w10 (w10.drewN n11) from (Chg.refl _ _ _).drewN n11).trans g12
    have o3 := o3.chg g12 (.inl (by omega))
    have k12 : w10.heap.size ≤ w12.heap.size := g12.size
    go_wp2_with fail
    refine (heldIntS_any A6 L.length _ 1 w12 o12.rd hL (by omega) (by omega)).mono ?_
    rintro e w13 ⟨rfl, rfl⟩
    have bw12 : Below W.heap.size W w12 := (bw8.trans (g10.below kW (by omega))).trans (g12.below (by omega) (by omega))
    have ha12 : Rd w12 A l := ha0.below bw12
    have hd0 : w12.cell? ⟨g, 0, none⟩ = some (.int .i64 cr) := (bw12.cell (p := ⟨g, 0, none⟩) hg0).trans (by assumption)
    have hd1 : w12.cell? ⟨g, 1, none⟩ = some (.int .i64 t) := (bw12.cell (p := ⟨g, 1, none⟩) hg0).trans (by assumption)
    have hg12 : g < w12.heap.size := by omega
    clear hc0 hc1
    go_wp2_with fail
    go_region_held3 (fun w' => w'.cell? ⟨g, 0, none⟩ = some (.int .i64 cr) ∧ w'.cell? ⟨g, 1, none⟩ = some (.int .i64 t)) (first | exact ⟨(b14.cell (p := ⟨g, 0, none⟩) hg12).trans hd0, (b14.cell (p := ⟨g, 1, none⟩) hg12).trans hd1⟩ | go_keep) (first | (go_at_call 12; refine (toIntS_any A l c _ (by exact ha12) hs).mono ?_; rintro e w14 ⟨A14, rfl, o14, b14⟩) | (go_at_call 16; refine (toDrive_any cr t _).mono ?_; rintro e w15 ⟨rfl, b15⟩; have b14 := b14.trans (b15.mono b14.size)) | (go_at_call 17; refine (dd_val (dd_impl A14 l l.length cr t _ (o14.rd.below b15) hs) HV.out).mono ?_; rintro e w16 ⟨A16, c16, rfl, o16, b16⟩; have b14 := b14.trans (b16.mono b14.size)))
    have b14 : Below w12.heap.size w12 w16 := (show Below w12.heap.size w12 w12.drew from (Below.refl _ _).drew).trans b14
    have o3 := o3.below b14 (by omega)
    have o12 := o12.below b14 (by omega)
    go_wp2_with fail
    refine (eqIntS_any A16 A3 L L _ _ _ o16.rd o3.rd hL hL).mono ?_
    rintro e w17 ⟨rfl, n17, rfl⟩
    go_wp2_with fail
    refine (heldIntS_any A6 L.length _ 1 _ (o12.rd.drewN n17) hL (by omega) (by omega)).mono ?_
    rintro e w18 ⟨rfl, rfl⟩
    go_wp2_with fail
    go_ret
    exact ⟨rfl, by rw [hG]; exact below_drewN ((bw.trans (bw12.mono (by omega))).trans (b14.mono (by omega))) n17⟩
  · go_enter Try.func4, Try.ntmps4
    go_wp2
    go_ret
    exact ⟨rfl, (Below.refl _ _).alloc (Nat.le_refl _) _⟩
/-- What DriveRun answers. -/
def drVal (r : List Int) (ds : List DriveV) : List Int × Int := if railV r = true then ((runR r ds).1, ((runR r ds).2 : Int)) else ([], 0)
theorem dr_val {r L : List Int} {ds : List DriveV} {b : Int} {f : FuncId} {args : Array Value} {w : World} (h : Calls Try.prog f args w (DroveRun r ds w)) (hv : drVal r ds = (L, b)) :
    Calls Try.prog f args w (Ans (fun s => .tuple #[s, .int .i64 b]) L.length L 3 w) := by
  refine h.mono ?_
  rintro e w' ⟨A, m, c, b', rfl, hc, hb⟩
  rcases hc with ⟨h1, rfl, rfl, ho⟩ | ⟨h1, rfl, rfl⟩
  · have hp := runR_props (r := r) ds h1 ds.length
    rw [runR_end r ds _ (Nat.le_refl _)] at hp
    rw [drVal, if_pos h1] at hv
    obtain ⟨rfl, rfl⟩ := Prod.mk.inj hv
    exact ⟨A, c, by rw [hp.2.1], ho, hb⟩
  · rw [drVal, if_neg (by rw [h1]; decide)] at hv
    obtain ⟨rfl, rfl⟩ := Prod.mk.inj hv
    exact ⟨A, c, rfl, Own.nil_, hb⟩
theorem drVal_length (r : List Int) (ds : List DriveV) : (drVal r ds).1.length ≤ r.length := by
  unfold drVal
  split
  · next h =>
    have hp := runR_props (r := r) ds h ds.length
    rw [runR_end r ds _ (Nat.le_refl _)] at hp
    show (runR r ds).1.length ≤ _
    omega
  · exact Nat.zero_le _
/-- What ClearWay answers. -/
def cwVal (r : List Int) (cr t : Int) : List DriveV × Bool := if clearOk r cr t = true then (clearW r cr.toNat t, true) else ([], false)
theorem cw_val {r : List Int} {L : List DriveV} {cr t : Int} {b : Bool} {f : FuncId} {args : Array Value} {w : World} (h : Calls Try.prog f args w (Cleared r cr t w)) (hv : cwVal r cr t = (L, b)) :
    Calls Try.prog f args w (Ans (fun s => .tuple #[s, .bool b]) L.length (flatDrive L) 30 w) := by
  refine h.mono ?_
  rintro e w' ⟨A, m, c, b', rfl, hc, hb⟩
  rcases hc with ⟨h1, rfl, rfl, ho⟩ | ⟨h1, rfl, rfl⟩
  · rw [cwVal, if_pos h1] at hv
    obtain ⟨rfl, rfl⟩ := Prod.mk.inj hv
    exact ⟨A, c, rfl, ho, hb⟩
  · rw [cwVal, if_neg (by rw [h1]; decide)] at hv
    obtain ⟨rfl, rfl⟩ := Prod.mk.inj hv
    exact ⟨A, c, rfl, Own.nil_, hb⟩
theorem cwVal_short (r : List Int) (cr t : Int) : (cwVal r cr t).1.length ≤ 16 := by
  unfold cwVal
  split
  · next h =>
    have h1 := hiD_length r cr.toNat t (r.length - 1 - cr.toNat)
    have h2 := loD_length r cr.toNat t cr.toNat
    have h3 : cr.toNat ≤ r.length := by
      unfold clearOk at h; simp only [Bool.and_eq_true, decide_eq_true_eq] at h; omega
    have h4 : r.length ≤ 4 := by
      unfold clearOk at h; simp only [Bool.and_eq_true] at h; exact (railV_spec h.1.1).2.2
    show (clearW r cr.toNat t).length ≤ _
    unfold clearW
    simp only [List.length_append, List.length_cons, List.length_nil]
    omega
  · exact Nat.zero_le _

set_option maxHeartbeats 4000000 in
theorem law_ExDriveRun {A0 : Option Addr} {l0 : List Int} {c0 : Nat} {A1 : Option Addr} {l1 : List DriveV} {c1 : Nat} (w : World) (ha0 : Rd w A0 l0) (hl0 : l0.length ≤ 9223372036854775807) (ha1 : RdDrive w A1 l1) (hl1 : l1.length ≤ 9223372036854775807) :
    Calls Try.prog 5 #[.slice A0 l0.length c0, .slice A1 l1.length c1] w fun e w' => e = .returned (.bool true) ∧ Below w.heap.size w w' := by
  by_cases hs0 : l0.length ≤ 1048576
  · skip
    by_cases hs1 : l1.length ≤ 1048576
    · skip
      obtain ⟨L, b, HV⟩ : ∃ L b, Hid (drVal l0 l1 = (L, b)) := ⟨_, _, rfl⟩
      have hL : L.length ≤ 1048576 := by have := drVal_length l0 l1; rw [HV.out] at this; exact Nat.le_trans this hs0
      go_enter Try.func5, Try.ntmps5
      have bw : Below w.heap.size w w := Below.refl _ _
      go_wp2_with fail
      refine (szDriveS_yes A1 l1.length c1 _ hs1).mono ?_
      rintro e w' ⟨rfl, rfl⟩
      go_wp2_with fail
      refine (toIntS_any A0 l0 c0 _ (ha0.below bw) hs0).mono ?_
      rintro e w1 ⟨B1, rfl, o1, b1⟩
      have k1 : w.heap.size ≤ w1.heap.size := b1.size
      have bw := bw.trans (b1.mono bw.size)
      go_wp2_with fail
      refine (toDriveS_any A1 l1 c1 _ (ha1.below bw) hs1).mono ?_
      rintro e w2 ⟨B2, rfl, o2, b2⟩
      have k2 : w1.heap.size ≤ w2.heap.size := b2.size
      have o1 := o1.below b2 (by omega)
      have bw := bw.trans (b2.mono bw.size)
      go_wp2_with fail
      refine (dr_val (dr_spec B1 B2 l0 l1 l0.length l1.length _ o1.rd (RdDrive.of_rd o2.rd) hs0 hs1) HV.out).mono ?_
      rintro e w3 ⟨B3, C3, rfl, o3, b3⟩
      have k3 : w2.heap.size ≤ w3.heap.size := b3.size
      have o1 := o1.below b3 (by omega)
      have o2 := o2.below b3 (by omega)
      have bw := bw.trans (b3.mono bw.size)
      clear o1
      clear o2
      go_wp2_with fail
      refine (toIntS_any A0 l0 c0 _ (ha0.below bw) hs0).mono ?_
      rintro e w4 ⟨B4, rfl, o4, b4⟩
      have k4 : w3.heap.size ≤ w4.heap.size := b4.size
      have o3 := o3.below b4 (by omega)
      have bw := bw.trans (b4.mono bw.size)
      go_wp2_with fail
      refine (toDriveS_any A1 l1 c1 _ (ha1.below bw) hs1).mono ?_
      rintro e w5 ⟨B5, rfl, o5, b5⟩
      have k5 : w4.heap.size ≤ w5.heap.size := b5.size
      have o3 := o3.below b5 (by omega)
      have o4 := o4.below b5 (by omega)
      have bw := bw.trans (b5.mono bw.size)
      go_wp2_with fail
      refine (dr_val (dr_impl B4 B5 l0 l1 l0.length l1.length _ o4.rd (RdDrive.of_rd o5.rd) hs0 hs1) HV.out).mono ?_
      rintro e w6 ⟨B6, C6, rfl, o6, b6⟩
      have k6 : w5.heap.size ≤ w6.heap.size := b6.size
      have o3 := o3.below b6 (by omega)
      have o4 := o4.below b6 (by omega)
      have o5 := o5.below b6 (by omega)
      have bw := bw.trans (b6.mono bw.size)
      go_wp2_with fail
      refine (eqIntS_b B6 B3 L L _ _ _ o6.rd o3.rd hL hL).mono ?_
      rintro e w7 ⟨rfl, b7⟩
      have k7 : w6.heap.size ≤ w7.heap.size := b7.size
      have o3 := o3.below b7 (by omega)
      have o4 := o4.below b7 (by omega)
      have o5 := o5.below b7 (by omega)
      have o6 := o6.below b7 (by omega)
      have bw := bw.trans (b7.mono bw.size)
      go_wp2_with fail
      refine (toIntS_any A0 l0 c0 _ (ha0.below bw) hs0).mono ?_
      rintro e w8 ⟨B8, rfl, o8, b8⟩
      have k8 : w7.heap.size ≤ w8.heap.size := b8.size
      have o3 := o3.below b8 (by omega)
      have o4 := o4.below b8 (by omega)
      have o5 := o5.below b8 (by omega)
      have o6 := o6.below b8 (by omega)
      have bw := bw.trans (b8.mono bw.size)
      go_wp2_with fail
      refine (eqIntS_b B4 B8 l0 l0 _ _ _ o4.rd o8.rd hs0 hs0).mono ?_
      rintro e w9 ⟨rfl, b9⟩
      have k9 : w8.heap.size ≤ w9.heap.size := b9.size
      have o3 := o3.below b9 (by omega)
      have o4 := o4.below b9 (by omega)
      have o5 := o5.below b9 (by omega)
      have o6 := o6.below b9 (by omega)
      have o8 := o8.below b9 (by omega)
      have bw := bw.trans (b9.mono bw.size)
      clear o8
      go_wp2_with fail
      refine (toDriveS_any A1 l1 c1 _ (ha1.below bw) hs1).mono ?_
      rintro e w10 ⟨B10, rfl, o10, b10⟩
      have k10 : w9.heap.size ≤ w10.heap.size := b10.size
      have o3 := o3.below b10 (by omega)
      have o4 := o4.below b10 (by omega)
      have o5 := o5.below b10 (by omega)
      have o6 := o6.below b10 (by omega)
      have bw := bw.trans (b10.mono bw.size)
      go_wp2_with fail
      refine (eqDriveS_any B5 B10 l1 l1 _ _ _ (RdDrive.of_rd o5.rd) (RdDrive.of_rd o10.rd) hs1 hs1).mono ?_
      rintro e w11 ⟨rfl, b11⟩
      have k11 : w10.heap.size ≤ w11.heap.size := b11.size
      have o3 := o3.below b11 (by omega)
      have o4 := o4.below b11 (by omega)
      have o5 := o5.below b11 (by omega)
      have o6 := o6.below b11 (by omega)
      have o10 := o10.below b11 (by omega)
      have bw := bw.trans (b11.mono bw.size)
      clear o10
      go_wp2_with fail
      refine (markIntS_any _ _ B4 l0 _ (1) _ o4 hs0 (by omega) (by omega)).mono ?_
      rintro e w12 ⟨rfl, o4, b12⟩
      have k12 : w11.heap.size ≤ w12.heap.size := b12.size
      have o3 := o3.chg b12 (by omega)
      have o5 := o5.chg b12 (by omega)
      have o6 := o6.chg b12 (by omega)
      have bw := bw.trans (b12.below (by omega) (by omega))
      go_wp2_with fail
      refine (markDriveS_any _ _ B5 l1.length (flatDrive l1) _ (1 + (l0.length : Int)) _ o5 (flatDrive_length _) hs1 (by omega) (by omega)).mono ?_
      rintro e w13 ⟨rfl, o5, b13⟩
      have k13 : w12.heap.size ≤ w13.heap.size := b13.size
      have o3 := o3.chg b13 (by omega)
      have o4 := o4.chg b13 (by omega)
      have o6 := o6.chg b13 (by omega)
      have bw := bw.trans (b13.below (by omega) (by omega))
      go_wp2_with fail
      refine (eqIntS_b B6 B3 L L _ _ _ o6.rd o3.rd hL hL).mono ?_
      rintro e w14 ⟨rfl, b14⟩
      have k14 : w13.heap.size ≤ w14.heap.size := b14.size
      have o3 := o3.below b14 (by omega)
      have o4 := o4.below b14 (by omega)
      have o5 := o5.below b14 (by omega)
      have o6 := o6.below b14 (by omega)
      have bw := bw.trans (b14.mono bw.size)
      go_wp2_with fail
      refine (markIntS_any _ _ B6 L _ (1) _ o6 hL (by omega) (by omega)).mono ?_
      rintro e w15 ⟨rfl, o6, b15⟩
      have k15 : w14.heap.size ≤ w15.heap.size := b15.size
      have o3 := o3.chg b15 (by omega)
      have o4 := o4.chg b15 (by omega)
      have o5 := o5.chg b15 (by omega)
      have bw := bw.trans (b15.below (by omega) (by omega))
      go_wp2_with fail
      refine (heldIntS_any B6 L.length _ 1 _ o6.rd hL (by omega) (by omega)).mono ?_
      rintro e w' ⟨rfl, rfl⟩
      go_wp2_with fail
      refine (toIntS_any A0 l0 c0 _ (ha0.below bw) hs0).mono ?_
      rintro e w16 ⟨B16, rfl, o16, b16⟩
      have k16 : w15.heap.size ≤ w16.heap.size := b16.size
      have o3 := o3.below b16 (by omega)
      have o4 := o4.below b16 (by omega)
      have o5 := o5.below b16 (by omega)
      have o6 := o6.below b16 (by omega)
      have bw := bw.trans (b16.mono bw.size)
      go_wp2_with fail
      refine (toDriveS_any A1 l1 c1 _ (ha1.below bw) hs1).mono ?_
      rintro e w17 ⟨B17, rfl, o17, b17⟩
      have k17 : w16.heap.size ≤ w17.heap.size := b17.size
      have o3 := o3.below b17 (by omega)
      have o4 := o4.below b17 (by omega)
      have o5 := o5.below b17 (by omega)
      have o6 := o6.below b17 (by omega)
      have o16 := o16.below b17 (by omega)
      have bw := bw.trans (b17.mono bw.size)
      go_wp2_with fail
      refine (dr_val (dr_impl B16 B17 l0 l1 l0.length l1.length _ o16.rd (RdDrive.of_rd o17.rd) hs0 hs1) HV.out).mono ?_
      rintro e w18 ⟨B18, C18, rfl, o18, b18⟩
      have k18 : w17.heap.size ≤ w18.heap.size := b18.size
      have o3 := o3.below b18 (by omega)
      have o4 := o4.below b18 (by omega)
      have o5 := o5.below b18 (by omega)
      have o6 := o6.below b18 (by omega)
      have o16 := o16.below b18 (by omega)
      have o17 := o17.below b18 (by omega)
      have bw := bw.trans (b18.mono bw.size)
      go_wp2_with fail
      refine (eqIntS_b B18 B3 L L _ _ _ o18.rd o3.rd hL hL).mono ?_
      rintro e w19 ⟨rfl, b19⟩
      have k19 : w18.heap.size ≤ w19.heap.size := b19.size
      have o3 := o3.below b19 (by omega)
      have o4 := o4.below b19 (by omega)
      have o5 := o5.below b19 (by omega)
      have o6 := o6.below b19 (by omega)
      have o16 := o16.below b19 (by omega)
      have o17 := o17.below b19 (by omega)
      have o18 := o18.below b19 (by omega)
      have bw := bw.trans (b19.mono bw.size)
      go_wp2_with fail
      refine (heldIntS_any B6 L.length _ 1 _ o6.rd hL (by omega) (by omega)).mono ?_
      rintro e w' ⟨rfl, rfl⟩
      go_wp2_with fail
      go_ret
      exact ⟨rfl, bw⟩
    · go_enter Try.func5, Try.ntmps5
      go_wp2_with fail
      refine (szDriveS_no A1 l1.length c1 _ hl1 hs1).mono ?_
      rintro e w' ⟨rfl, rfl⟩
      go_wp2_with fail
      go_ret
      exact ⟨rfl, Below.refl _ _⟩
  · go_enter Try.func5, Try.ntmps5
    go_wp2_with fail
    go_ret
    exact ⟨rfl, Below.refl _ _⟩

set_option maxHeartbeats 4000000 in
theorem law_ExClearWay {A0 : Option Addr} {l0 : List Int} {c0 : Nat} {cr : Int} {t : Int} (w : World) (ha0 : Rd w A0 l0) (hl0 : l0.length ≤ 9223372036854775807) (hcr1 : -9223372036854775808 ≤ cr) (hcr2 : cr ≤ 9223372036854775807) (ht1 : -9223372036854775808 ≤ t) (ht2 : t ≤ 9223372036854775807) :
    Calls Try.prog 6 #[.slice A0 l0.length c0, .int .i64 cr, .int .i64 t] w fun e w' => e = .returned (.bool true) ∧ Below w.heap.size w w' := by
  by_cases hs0 : l0.length ≤ 1048576
  · skip
    obtain ⟨L, b, HV⟩ : ∃ L b, Hid (cwVal l0 cr t = (L, b)) := ⟨_, _, rfl⟩
    have hL : L.length ≤ 1048576 := by
      have := cwVal_short l0 cr t; rw [HV.out] at this; exact Nat.le_trans this (by omega)
    go_enter Try.func6, Try.ntmps6
    have bw : Below w.heap.size w w := Below.refl _ _
    go_wp2_with fail
    refine (toIntS_any A0 l0 c0 _ (ha0.below bw) hs0).mono ?_
    rintro e w1 ⟨B1, rfl, o1, b1⟩
    have k1 : w.heap.size ≤ w1.heap.size := b1.size
    have bw := bw.trans (b1.mono bw.size)
    go_wp2_with fail
    refine (cw_val (cw_spec B1 l0 l0.length cr t _ o1.rd hs0) HV.out).mono ?_
    rintro e w2 ⟨B2, C2, rfl, o2, b2⟩
    have k2 : w1.heap.size ≤ w2.heap.size := b2.size
    have o1 := o1.below b2 (by omega)
    have bw := bw.trans (b2.mono bw.size)
    clear o1
    go_wp2_with fail
    refine (toIntS_any A0 l0 c0 _ (ha0.below bw) hs0).mono ?_
    rintro e w3 ⟨B3, rfl, o3, b3⟩
    have k3 : w2.heap.size ≤ w3.heap.size := b3.size
    have o2 := o2.below b3 (by omega)
    have bw := bw.trans (b3.mono bw.size)
    go_wp2_with fail
    refine (cw_val (cw_impl B3 l0 l0.length cr t _ o3.rd hs0) HV.out).mono ?_
    rintro e w4 ⟨B4, C4, rfl, o4, b4⟩
    have k4 : w3.heap.size ≤ w4.heap.size := b4.size
    have o2 := o2.below b4 (by omega)
    have o3 := o3.below b4 (by omega)
    have bw := bw.trans (b4.mono bw.size)
    go_wp2_with fail
    refine (eqDriveS_any B4 B2 L L _ _ _ (RdDrive.of_rd o4.rd) (RdDrive.of_rd o2.rd) hL hL).mono ?_
    rintro e w5 ⟨rfl, b5⟩
    have k5 : w4.heap.size ≤ w5.heap.size := b5.size
    have o2 := o2.below b5 (by omega)
    have o3 := o3.below b5 (by omega)
    have o4 := o4.below b5 (by omega)
    have bw := bw.trans (b5.mono bw.size)
    go_wp2_with fail
    refine (toIntS_any A0 l0 c0 _ (ha0.below bw) hs0).mono ?_
    rintro e w6 ⟨B6, rfl, o6, b6⟩
    have k6 : w5.heap.size ≤ w6.heap.size := b6.size
    have o2 := o2.below b6 (by omega)
    have o3 := o3.below b6 (by omega)
    have o4 := o4.below b6 (by omega)
    have bw := bw.trans (b6.mono bw.size)
    go_wp2_with fail
    refine (eqIntS_b B3 B6 l0 l0 _ _ _ o3.rd o6.rd hs0 hs0).mono ?_
    rintro e w7 ⟨rfl, b7⟩
    have k7 : w6.heap.size ≤ w7.heap.size := b7.size
    have o2 := o2.below b7 (by omega)
    have o3 := o3.below b7 (by omega)
    have o4 := o4.below b7 (by omega)
    have o6 := o6.below b7 (by omega)
    have bw := bw.trans (b7.mono bw.size)
    clear o6
    go_wp2_with fail
    refine (markIntS_any _ _ B3 l0 _ (1) _ o3 hs0 (by omega) (by omega)).mono ?_
    rintro e w8 ⟨rfl, o3, b8⟩
    have k8 : w7.heap.size ≤ w8.heap.size := b8.size
    have o2 := o2.chg b8 (by omega)
    have o4 := o4.chg b8 (by omega)
    have bw := bw.trans (b8.below (by omega) (by omega))
    go_wp2_with fail
    refine (eqDriveS_any B4 B2 L L _ _ _ (RdDrive.of_rd o4.rd) (RdDrive.of_rd o2.rd) hL hL).mono ?_
    rintro e w9 ⟨rfl, b9⟩
    have k9 : w8.heap.size ≤ w9.heap.size := b9.size
    have o2 := o2.below b9 (by omega)
    have o3 := o3.below b9 (by omega)
    have o4 := o4.below b9 (by omega)
    have bw := bw.trans (b9.mono bw.size)
    go_wp2_with fail
    refine (markDriveS_any _ _ B4 L.length (flatDrive L) _ (1) _ o4 (flatDrive_length _) hL (by omega) (by omega)).mono ?_
    rintro e w10 ⟨rfl, o4, b10⟩
    have k10 : w9.heap.size ≤ w10.heap.size := b10.size
    have o2 := o2.chg b10 (by omega)
    have o3 := o3.chg b10 (by omega)
    have bw := bw.trans (b10.below (by omega) (by omega))
    go_wp2_with fail
    refine (heldDriveS_any B4 L.length _ 1 _ o4.rd hL (by omega) (by omega)).mono ?_
    rintro e w' ⟨rfl, rfl⟩
    go_wp2_with fail
    refine (toIntS_any A0 l0 c0 _ (ha0.below bw) hs0).mono ?_
    rintro e w11 ⟨B11, rfl, o11, b11⟩
    have k11 : w10.heap.size ≤ w11.heap.size := b11.size
    have o2 := o2.below b11 (by omega)
    have o3 := o3.below b11 (by omega)
    have o4 := o4.below b11 (by omega)
    have bw := bw.trans (b11.mono bw.size)
    go_wp2_with fail
    refine (cw_val (cw_impl B11 l0 l0.length cr t _ o11.rd hs0) HV.out).mono ?_
    rintro e w12 ⟨B12, C12, rfl, o12, b12⟩
    have k12 : w11.heap.size ≤ w12.heap.size := b12.size
    have o2 := o2.below b12 (by omega)
    have o3 := o3.below b12 (by omega)
    have o4 := o4.below b12 (by omega)
    have o11 := o11.below b12 (by omega)
    have bw := bw.trans (b12.mono bw.size)
    go_wp2_with fail
    refine (eqDriveS_any B12 B2 L L _ _ _ (RdDrive.of_rd o12.rd) (RdDrive.of_rd o2.rd) hL hL).mono ?_
    rintro e w13 ⟨rfl, b13⟩
    have k13 : w12.heap.size ≤ w13.heap.size := b13.size
    have o2 := o2.below b13 (by omega)
    have o3 := o3.below b13 (by omega)
    have o4 := o4.below b13 (by omega)
    have o11 := o11.below b13 (by omega)
    have o12 := o12.below b13 (by omega)
    have bw := bw.trans (b13.mono bw.size)
    go_wp2_with fail
    refine (heldDriveS_any B4 L.length _ 1 _ o4.rd hL (by omega) (by omega)).mono ?_
    rintro e w' ⟨rfl, rfl⟩
    go_wp2_with fail
    go_ret
    exact ⟨rfl, bw⟩
  · go_enter Try.func6, Try.ntmps6
    go_wp2_with fail
    go_ret
    exact ⟨rfl, Below.refl _ _⟩
end Go.Proofs.Ytiffcnhmlmblhaa
