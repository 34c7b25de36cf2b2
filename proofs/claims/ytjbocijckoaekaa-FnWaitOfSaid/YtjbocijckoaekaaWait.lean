/- WaitOf: how long ships wait together. -/
import Derived.Test.YtjbocijckoaekaaStart
namespace Go.Proofs.Ytjbocijckoaekaa
open Go.RowKit
set_option linter.unusedVariables false
set_option linter.unusedSimpArgs false

def waitTo (l : List ShipV) (L : List Int) : Nat → Int
  | 0 => 0
  | k + 1 => match L[k]?, l[k]? with
    | some s, some x => waitTo l L k + (s - x.arrive)
    | _, _ => waitTo l L k
def waitS (l : List ShipV) (o : List Int) : Int := if startOk l o = true then waitTo l (startS l o) l.length else -1
theorem waitTo_next {l : List ShipV} {L : List Int} {k : Nat} {s : Int} {x : ShipV} (h1 : L[k]? = some s) (h2 : l[k]? = some x) : waitTo l L (k + 1) = waitTo l L k + (s - x.arrive) := by simp only [waitTo, h1, h2]
theorem waitTo_bd {l : List ShipV} {L : List Int} (hv : ∀ x ∈ l, oneV x) (hL : ∀ s ∈ L, 0 ≤ s ∧ s ≤ 7000) : ∀ k : Nat, -(1000 * (k : Int)) ≤ waitTo l L k ∧ waitTo l L k ≤ 7000 * (k : Int) := by
  intro k
  induction k with
  | zero => simp [waitTo]
  | succ k ih =>
    unfold waitTo
    split
    · next s x h1 h2 =>
      have := hv x (List.mem_of_getElem? h2)
      have := hL s (List.mem_of_getElem? h1)
      unfold oneV at *
      omega
    · omega
theorem start_props {l : List ShipV} {o : List Int} (h : startOk l o = true) : (startS l o).length = l.length ∧ ∀ s ∈ startS l o, 0 ≤ s ∧ s ≤ 7000 := by
  obtain ⟨h1, h2⟩ := startOk_spec h
  obtain ⟨hv, h5⟩ := listV_spec h1
  obtain ⟨_, _, h3, h4⟩ := stTo_bd hv o o.length
  rw [startS_yes h1 h2]
  have := (permV_spec h2).2
  exact ⟨h3, fun s hs => by have := h4 s hs; omega⟩
theorem waitS_no {l : List ShipV} {o : List Int} (h : startOk l o = false) : waitS l o = -1 := by unfold waitS; rw [h]; rfl
theorem waitS_yes {l : List ShipV} {o : List Int} (h : startOk l o = true) : waitS l o = waitTo l (startS l o) l.length := by unfold waitS; rw [h]; rfl
theorem ok_no1 {l : List ShipV} {o : List Int} (h : listV l = false) : startOk l o = false := by unfold startOk; rw [h]; rfl
theorem ok_no2 {l : List ShipV} {o : List Int} (h : permV o l.length = false) : startOk l o = false := by unfold startOk; rw [h]; simp
theorem ok_yes {l : List ShipV} {o : List Int} (h : listV l = true) (h2 : permV o l.length = true) : startOk l o = true := by unfold startOk; rw [h, h2]; rfl
theorem ans_of {v : Value → Value} {L L' : List Int} {t : TypeId} {f : FuncId} {args : Array Value} {w : World} (h : Calls Try.prog f args w (Ans v L.length L t w)) (e : L = L') : Calls Try.prog f args w (Ans v L'.length L' t w) := by rw [← e]; exact h

set_option maxHeartbeats 1600000 in
theorem wo_impl (A B : Option Addr) (l : List ShipV) (o : List Int) (c d : Nat) (w : World) (ha : RdShip w A l) (hb : Rd w B o) (hl : l.length ≤ 1048576) (ho : o.length ≤ 1048576) (hd : o.length ≤ d) :
    Calls Try.prog 26 #[.slice A l.length c, .slice B o.length d] w fun e w' => e = .returned (.int .i64 (waitS l o)) ∧ Below w.heap.size w w' := by
  obtain ⟨N, HN⟩ : ∃ N, Hid (waitS l o = N) := ⟨_, rfl⟩
  rw [HN.out]
  cases hv : listV l with
  | false =>
    have HQ := Lib.hid (lvb (lv_impl A l c w ha hl) hv)
    have HO := Lib.hid (HN.out.symm.trans (waitS_no (ok_no1 hv)))
    clear hv
    go_enter Try.func26, Try.ntmps26
    go_wp2_with fail
    refine HQ.out.mono ?_
    rintro e w1 ⟨rfl, b1⟩
    go_wp2_with fail
    go_ret
    exact ⟨ret_int HO.out.symm, b1⟩
  | true =>
    have HQ := Lib.hid (lvb (lv_impl A l c w ha hl) hv)
    obtain ⟨hve, hl6⟩ := listV_spec hv
    have HV := Lib.hid hv
    have HVE := Lib.hid hve
    clear hv hve
    cases hp : permV o l.length with
    | false =>
      have HP := Lib.hid (fun W (h : Rd W B o) => bool_is (perm_impl B o d l.length W h ho hd hl) hp)
      have HO := Lib.hid (HN.out.symm.trans (waitS_no (ok_no2 hp)))
      clear hp
      go_enter Try.func26, Try.ntmps26
      go_wp2_with fail
      refine HQ.out.mono ?_
      rintro e w1 ⟨rfl, b1⟩
      go_wp2_with fail
      refine (HP.out w1 (hb.below b1)).mono ?_
      rintro e w' ⟨rfl, rfl⟩
      go_wp2_with fail
      go_ret
      exact ⟨ret_int HO.out.symm, b1⟩
    | true =>
      have HP := Lib.hid (fun W (h : Rd W B o) => bool_is (perm_impl B o d l.length W h ho hd hl) hp)
      have hok := ok_yes HV.out hp
      have HO := Lib.hid (HN.out.symm.trans (waitS_yes hok))
      obtain ⟨L, HL⟩ : ∃ L, Hid (startS l o = L) := ⟨_, rfl⟩
      obtain ⟨sl, sb⟩ := start_props hok
      rw [HL.out] at HO sl sb
      have HSB := Lib.hid sb
      have HSL := Lib.hid sl
      have hLl : L.length ≤ 5 := by omega
      clear hp hok sl sb
      go_enter Try.func26, Try.ntmps26
      go_wp2_with fail
      refine HQ.out.mono ?_
      rintro e w1 ⟨rfl, b1⟩
      go_wp2_with fail
      refine (HP.out w1 (hb.below b1)).mono ?_
      rintro e w' ⟨rfl, rfl⟩
      go_wp2_with fail
      refine (ans_of (sh_impl A B l o c d w1 (ha.below b1) (hb.below b1) hl ho hd) HL.out).mono ?_
      rintro e w2 ⟨A2, c2, rfl, o2, b2⟩
      have r2 := o2.rd
      have ha2 := (ha.below b1).below b2
      have HB := Lib.hid (b1.trans (b2.mono b1.size))
      clear o2 b2
      go_wp2_with fail
      go_loop [5, 22] (fun t i => ∃ k : Nat, k ≤ L.length ∧ i = .int .i64 k ∧ t = .int .i64 (waitTo l L k)) (fun _ i => L.length - (intOf i).toNat)
      case atStart => exact ⟨0, by omega, rfl, rfl⟩
      case round =>
        obtain ⟨k, hk, rfl, rfl⟩ := hrel
        obtain ⟨t1, t2⟩ := waitTo_bd HVE.out HSB.out k
        by_cases hlt : k < L.length
        · obtain ⟨b, off, s, rfl, hbx, Hs, hcs⟩ := r2.at_ hlt
          obtain ⟨b', off', y, rfl, hby, Hy, hy0, hy1⟩ := ha2.at_ (k := k) (by have := HSL.out; omega)
          have hsb := HSB.out s (mem_at Hs.out)
          have hyb := HVE.out y (mem_at Hy.out)
          unfold oneV at hyb
          obtain ⟨⟨y1, y2⟩, y3, y4⟩ := hyb
          have HN1 := Lib.hid (waitTo_next Hs.out Hy.out)
          have q0 : (0 : Int) ≤ (k : Int) := by omega
          have q1 : (k : Int) < (l.length : Int) := by have := HSL.out; omega
          obtain ⟨t, Ht⟩ : ∃ t, Hid (waitTo l L k = t) := ⟨_, rfl⟩
          rw [Ht.out] at t1 t2 ⊢
          go_wp2_with fail
          exact ⟨⟨k + 1, by omega, by go_num, by rw [HN1.out, Ht.out]⟩, by simp [intOf]; omega⟩
        · have HE : Hid (waitTo l L k = N) := by show _ = _; rw [HO.out, show k = l.length from by have := HSL.out; omega]
          go_wp2_with fail
          go_ret
          exact ⟨ret_int HE.out, HB.out⟩

set_option maxHeartbeats 1600000 in
theorem wo_spec (A B : Option Addr) (l : List ShipV) (o : List Int) (c d : Nat) (w : World) (ha : RdShip w A l) (hb : Rd w B o) (hl : l.length ≤ 1048576) (ho : o.length ≤ 1048576) (hd : o.length ≤ d) :
    Calls Try.prog 25 #[.slice A l.length c, .slice B o.length d] w fun e w' => e = .returned (.int .i64 (waitS l o)) ∧ Below w.heap.size w w' := by
  obtain ⟨N, HN⟩ : ∃ N, Hid (waitS l o = N) := ⟨_, rfl⟩
  rw [HN.out]
  obtain ⟨L, HL⟩ : ∃ L, Hid (startS l o = L) := ⟨_, rfl⟩
  have HSH := Lib.hid (ans_of (sh_spec A B l o c d w ha hb hl ho hd) HL.out)
  cases hv : listV l with
  | false =>
    have HQ := Lib.hid (fun W (h : RdShip W A l) => bool_is (lv_spec A l c W h hl) hv)
    have HO := Lib.hid (HN.out.symm.trans (waitS_no (ok_no1 hv)))
    clear hv
    go_enter Try.func25, Try.ntmps25
    go_wp2_with fail
    refine HSH.out.mono ?_
    rintro e w1 ⟨A1, c1, rfl, o1, b1⟩
    clear o1
    go_wp2_with fail
    refine (HQ.out w1 (ha.below b1)).mono ?_
    rintro e w' ⟨rfl, rfl⟩
    go_wp2_with fail
    go_ret
    exact ⟨ret_int HO.out.symm, b1⟩
  | true =>
    have HQ := Lib.hid (fun W (h : RdShip W A l) => bool_is (lv_spec A l c W h hl) hv)
    obtain ⟨hve, hl6⟩ := listV_spec hv
    have HV := Lib.hid hv
    have HVE := Lib.hid hve
    clear hv hve
    by_cases hol : o.length = l.length
    · have t0 : ((o.length : Int) != (l.length : Int)) = false := by simp [hol]
      cases hp : permV o l.length with
      | false =>
        have HO := Lib.hid (HN.out.symm.trans (waitS_no (ok_no2 hp)))
        have hLn : L = [] := by rw [← HL.out]; exact startS_no2 hp
        have t1 : ((L.length : Int) != (l.length : Int)) = true := by
          have : l.length ≠ 0 := by
            intro e
            have h0 : o = [] := List.eq_nil_of_length_eq_zero (by omega)
            rw [h0, e] at hp
            revert hp; decide
          rw [hLn]; simp; omega
        clear hp hol hLn
        go_enter Try.func25, Try.ntmps25
        go_wp2_with fail
        refine HSH.out.mono ?_
        rintro e w1 ⟨A1, c1, rfl, o1, b1⟩
        clear o1
        go_wp2_with fail
        refine (HQ.out w1 (ha.below b1)).mono ?_
        rintro e w' ⟨rfl, rfl⟩
        go_wp2_with fail
        go_ret
        exact ⟨ret_int HO.out.symm, b1⟩
      | true =>
        have hok := ok_yes HV.out hp
        have HO := Lib.hid (HN.out.symm.trans (waitS_yes hok))
        obtain ⟨sl, sb⟩ := start_props hok
        rw [HL.out] at HO sl sb
        have HSB := Lib.hid sb
        have HSL := Lib.hid sl
        have hLl : L.length ≤ 5 := by omega
        have t1 : ((L.length : Int) != (l.length : Int)) = false := by rw [sl]; simp
        clear hp hok sl sb hol
        go_enter Try.func25, Try.ntmps25
        go_wp2_with fail
        refine HSH.out.mono ?_
        rintro e w1 ⟨A1, c1, rfl, o1, b1⟩
        have r1 := o1.rd
        have ha1 := ha.below b1
        clear o1
        go_wp2_with fail
        refine (HQ.out w1 ha1).mono ?_
        rintro e w' ⟨rfl, rfl⟩
        go_wp2_with fail
        go_loopw [6, 7] (fun t i wr => ∃ k n : Nat, k ≤ l.length ∧ i = .int .i64 k ∧ t = .int .i64 (waitTo l L k) ∧ wr = w1.drewN n) (fun _ i _ => l.length - (intOf i).toNat)
        case atStart => exact ⟨0, 0, by omega, rfl, rfl, rfl⟩
        case round =>
          obtain ⟨k, n, hk, rfl, rfl, rfl⟩ := hrel
          obtain ⟨t1', t2⟩ := waitTo_bd HVE.out HSB.out k
          by_cases hlt : k < l.length
          · obtain ⟨b, off, s, rfl, hbx, Hs, hcs⟩ := r1.at_ (k := k) (by have := HSL.out; omega)
            obtain ⟨b', off', y, rfl, hby, Hy, hy0, hy1⟩ := ha1.at_ (k := k) hlt
            have hsb := HSB.out s (mem_at Hs.out)
            have hyb := HVE.out y (mem_at Hy.out)
            unfold oneV at hyb
            obtain ⟨⟨y1, y2⟩, y3, y4⟩ := hyb
            have HN1 := Lib.hid (waitTo_next Hs.out Hy.out)
            have q0 : (0 : Int) ≤ (k : Int) := by omega
            have q1 : (k : Int) < (l.length : Int) := by omega
            have q2 : (k : Int) < (L.length : Int) := by have := HSL.out; omega
            obtain ⟨t, Ht⟩ : ∃ t, Hid (waitTo l L k = t) := ⟨_, rfl⟩
            rw [Ht.out] at t1' t2 ⊢
            have v1 : -100000 ≤ t + s := by omega
            have v2 : t + s ≤ 100000 := by omega
            go_wp2_with fail
            go_quiet (fail)
            go_wp2_with fail
            exact ⟨⟨k + 1, _, by omega, by go_num, by first | (rw [HN1.out, Ht.out]; go_num) | (rw [HN1.out, Ht.out]; congr 1; omega), rfl⟩, by simp [intOf]; omega⟩
          · have HE : Hid (waitTo l L k = N) := by show _ = _; rw [HO.out, show k = l.length from by omega]
            go_wp2_with fail
            go_ret
            exact ⟨ret_int HE.out, below_drewN b1 _⟩
    · have t0 : ((o.length : Int) != (l.length : Int)) = true := by simp; omega
      have HO := Lib.hid (HN.out.symm.trans (waitS_no (ok_no2 (permV_len hol))))
      clear hol
      go_enter Try.func25, Try.ntmps25
      go_wp2_with fail
      refine HSH.out.mono ?_
      rintro e w1 ⟨A1, c1, rfl, o1, b1⟩
      clear o1
      go_wp2_with fail
      refine (HQ.out w1 (ha.below b1)).mono ?_
      rintro e w' ⟨rfl, rfl⟩
      go_wp2_with fail
      go_ret
      exact ⟨ret_int HO.out.symm, b1⟩
end Go.Proofs.Ytjbocijckoaekaa
