/- StartHours: when each ship is begun to be handled. -/
import Derived.Test.YtjbocijckoaekaaPair
import Derived.Laws.OwnMore
namespace Go.Proofs.Ytjbocijckoaekaa
open Go.RowKit
set_option linter.unusedVariables false
set_option linter.unusedSimpArgs false

/-- After the first k of the order: the hours so far, and when all is done. -/
def stTo (l : List ShipV) (o : List Int) : Nat → List Int × Int
  | 0 => (List.replicate l.length 0, 0)
  | k + 1 => match o[k]? with
    | some i => match l[i.toNat]? with
      | some x => ((stTo l o k).1.set i.toNat (max (stTo l o k).2 x.arrive), max (stTo l o k).2 x.arrive + x.hours)
      | none => stTo l o k
    | none => stTo l o k
def startOk (l : List ShipV) (o : List Int) : Bool := listV l && permV o l.length
def startS (l : List ShipV) (o : List Int) : List Int := if startOk l o = true then (stTo l o o.length).1 else []
theorem stTo_next {l : List ShipV} {o : List Int} {k j : Nat} {x : ShipV} (ho : o[k]? = some (j : Int)) (hl : l[j]? = some x) :
    stTo l o (k + 1) = ((stTo l o k).1.set j (max (stTo l o k).2 x.arrive), max (stTo l o k).2 x.arrive + x.hours) := by
  simp only [stTo, ho, Int.toNat_natCast, hl]
theorem stTo_bd {l : List ShipV} (hv : ∀ x ∈ l, oneV x) (o : List Int) : ∀ k, 0 ≤ (stTo l o k).2 ∧ (stTo l o k).2 ≤ 1098 * (k : Int) ∧ (stTo l o k).1.length = l.length ∧ ∀ y ∈ (stTo l o k).1, 0 ≤ y ∧ y ≤ 999 + 1098 * (k : Int) := by
  intro k
  induction k with
  | zero => simp [stTo]
  | succ k ih =>
    obtain ⟨h1, h2, h3, h4⟩ := ih
    unfold stTo
    split
    · next i hi =>
      split
      · next x hx =>
        have := hv x (List.mem_of_getElem? hx)
        unfold oneV at this
        simp only
        refine ⟨by omega, by omega, by simp [h3], fun y hy => ?_⟩
        rcases List.mem_or_eq_of_mem_set hy with h | h
        · have := h4 y h; omega
        · omega
      · exact ⟨by omega, by omega, h3, fun y hy => by have := h4 y hy; omega⟩
    · exact ⟨by omega, by omega, h3, fun y hy => by have := h4 y hy; omega⟩
theorem startOk_spec {l : List ShipV} {o : List Int} (h : startOk l o = true) : listV l = true ∧ permV o l.length = true := by simpa [startOk] using h
theorem startS_no1 {l : List ShipV} {o : List Int} (h : listV l = false) : startS l o = [] := by unfold startS startOk; rw [h]; rfl
theorem startS_no2 {l : List ShipV} {o : List Int} (h : permV o l.length = false) : startS l o = [] := by unfold startS startOk; rw [h]; simp
theorem startS_yes {l : List ShipV} {o : List Int} (h1 : listV l = true) (h2 : permV o l.length = true) : startS l o = (stTo l o o.length).1 := by unfold startS startOk; rw [h1, h2]; rfl
theorem max_lt {a b : Int} (h : a < b) : max a b = b := by omega
theorem max_ge {a b : Int} (h : ¬ a < b) : max a b = a := by omega

theorem far1 {W : World} {p q : Addr} {v : Value} (h : q.block ≠ p.block) : (W.setCell p v).cell? q = W.cell? q := World.cell?_of_block (Below.heap_setCell W p v q.block h)
theorem below_da {w wr : World} (h : Below w.heap.size w wr) (n : Nat) (o : Obj) : Below w.heap.size w ((wr.drewN n).alloc o) := (below_drewN h n).alloc h.size o
theorem own_cells {cs : Array Value} {L N : List Int} (h : cs.toList = L.map (Value.int .i64)) (hn : N = L) : ∀ (k : Nat) (x : Int), N[k]? = some x → cs[k]? = some (Value.int .i64 x) := by
  intro k x hx
  rw [← Array.getElem?_toList, h, List.getElem?_map, ← hn, hx]; rfl
set_option maxHeartbeats 1600000 in
theorem sh_impl (A B : Option Addr) (l : List ShipV) (o : List Int) (c d : Nat) (w : World) (ha : RdShip w A l) (hb : Rd w B o) (hl : l.length ≤ 1048576) (ho : o.length ≤ 1048576) (hd : o.length ≤ d) :
    Calls Try.prog 20 #[.slice A l.length c, .slice B o.length d] w (Ans (fun s => s) (startS l o).length (startS l o) 3 w) := by
  obtain ⟨i0, hi, hz0, hz1, hz2⟩ := info_parts info_int
  obtain ⟨N, HN⟩ : ∃ N, Hid (startS l o = N) := ⟨_, rfl⟩
  rw [HN.out]
  have HNIL : Hid (∀ W, Below w.heap.size w W → N = [] → Ans (fun s => s) N.length N 3 w (.returned (.slice none 0 0)) W) := fun W hW e => by
    rw [e]; exact ⟨none, 0, rfl, Own.nil_, hW⟩
  cases hv : listV l with
  | false =>
    have HQ := Lib.hid (lvb (lv_impl A l c w ha hl) hv)
    have HO := Lib.hid (HN.out.symm.trans (startS_no1 hv))
    clear hv
    go_enter Try.func20, Try.ntmps20
    go_wp2_with fail
    refine HQ.out.mono ?_
    rintro e w1 ⟨rfl, b1⟩
    go_wp2_with fail
    go_ret
    exact HNIL.out _ b1 HO.out
  | true =>
    have HQ := Lib.hid (lvb (lv_impl A l c w ha hl) hv)
    obtain ⟨hve, hl6⟩ := listV_spec hv
    have HV := Lib.hid hv
    have HVE := Lib.hid hve
    clear hv hve
    cases hp : permV o l.length with
    | false =>
      have HP := Lib.hid (fun W (h : Rd W B o) => bool_is (perm_impl B o d l.length W h ho hd hl) hp)
      have HO := Lib.hid (HN.out.symm.trans (startS_no2 hp))
      clear hp
      go_enter Try.func20, Try.ntmps20
      go_wp2_with fail
      refine HQ.out.mono ?_
      rintro e w1 ⟨rfl, b1⟩
      go_wp2_with fail
      refine (HP.out w1 (hb.below b1)).mono ?_
      rintro e w' ⟨rfl, rfl⟩
      go_wp2_with fail
      go_ret
      exact HNIL.out _ b1 HO.out
    | true =>
      have HP := Lib.hid (fun W (h : Rd W B o) => bool_is (perm_impl B o d l.length W h ho hd hl) hp)
      have HO := Lib.hid (HN.out.symm.trans (startS_yes HV.out hp))
      have HPS := Lib.hid (permV_spec hp)
      have hol : o.length = l.length := (permV_spec hp).2
      have ho6 : o.length ≤ 5 := by omega
      clear hp hol
      go_enter Try.func20, Try.ntmps20
      go_wp2_with fail
      refine HQ.out.mono ?_
      rintro e w1 ⟨rfl, b1⟩
      go_wp2_with fail
      refine (HP.out w1 (hb.below b1)).mono ?_
      rintro e w' ⟨rfl, rfl⟩
      have ha1 := ha.below b1
      have hb1 := hb.below b1
      go_wp2_with (at_make; refine wpList_make_full _ rfl _ _ 29 rfl w1.heap.size 3 i0 (.int .i64 0) 1 Try.underlying29 hi hz0 hz1 .i64 .i64 _ _ l.length rfl rfl rfl rfl ?c1 ?c2 (Nat.le_refl _) ?_)
      case c1 => rw [hz2]; omega
      case c2 => unfold maxLen; omega
      intro w2 hrow hg1
      obtain ⟨cs0, hb0, hcs0⟩ := blk_of_full hrow rfl
      have hc0 : Hid (cs0.toList = (stTo l o 0).1.map (Value.int .i64)) := by
        show _ = _
        rw [hcs0]; simpa [stTo] using toList_madeCells_one (.int .i64 0) l.length
      have hb2 := below_grown hg1
      clear hrow hg1 hcs0 hz0 hz1 hz2 hi
      go_wp2_with fail
      go_loopw [6, 24] (fun u i wr => ∃ (k : Nat) (cs : Array Value), k ≤ o.length ∧ i = .int .i64 k ∧ u = .int .i64 (stTo l o k).2 ∧ Blk wr w1.heap.size 3 cs ∧ Hid (cs.toList = (stTo l o k).1.map (Value.int .i64)) ∧ Below w1.heap.size w1 wr) (fun _ i _ => o.length - (intOf i).toNat)
      case atStart => exact ⟨0, cs0, by omega, rfl, rfl, hb0, hc0, hb2⟩
      case round =>
        obtain ⟨k, cs, hk, rfl, rfl, hblk, HC, hbw⟩ := hrel
        obtain ⟨u1, u2, u3, _⟩ := stTo_bd HVE.out o k
        by_cases hlt : k < o.length
        · obtain ⟨b, off, x, rfl, hbx, Hx, hcx⟩ := (hb1.below hbw).at_ hlt
          obtain ⟨⟨x0, x9⟩, _⟩ := permTo_at HPS.out.1 hlt Hx.out
          obtain ⟨j, rfl⟩ := Int.eq_ofNat_of_zero_le x0
          obtain ⟨b', off', y, e, hby, Hy, hy0, hy1⟩ := (ha1.below hbw).at_ (k := j) (by omega)
          have hbo : b' < w1.heap.size := by
            obtain ⟨b2, off2, y2, e2, hby2, _⟩ := ha1.at_ (k := j) (by omega)
            rw [e] at e2; injection e2 with e2; injection e2 with e3; rw [e3]; exact hby2
          subst e
          have hne : ¬ b' = w1.heap.size := by omega
          have hyb := HVE.out y (mem_at Hy.out)
          unfold oneV at hyb
          obtain ⟨⟨y1, y2⟩, y3, y4⟩ := hyb
          have HN1 := Lib.hid (stTo_next Hx.out Hy.out)
          have q1 : (j : Int) < (l.length : Int) := by omega
          have q0 : (0 : Int) ≤ (j : Int) := by omega
          have hjs : j < cs.size := by
            have h := congrArg List.length HC.out
            simp at h
            rw [h, u3]; omega
          have hc2 := (hblk.cell j).trans (Array.getElem?_eq_getElem hjs)
          have hf2 := hblk.frozen j
          obtain ⟨uu, huu⟩ : ∃ uu, cs[j] = uu := ⟨_, rfl⟩
          rw [huu] at hc2
          clear huu
          obtain ⟨u, Hu⟩ : ∃ u, Hid ((stTo l o k).2 = u) := ⟨_, rfl⟩
          rw [Hu.out] at u1 u2 ⊢
          have HC2 : Hid (∀ v : Int, (cs.setIfInBounds j (.int .i64 v)).toList = ((stTo l o k).1.set j v).map (Value.int .i64)) := fun v => by
            rw [Array.toList_setIfInBounds, HC.out, List.map_set]
          by_cases hda : u < y.arrive
          · have HM := Lib.hid (max_lt hda)
            go_wp2_with fail
            go_quiet (fail)
            go_wp2_with fail
            exact ⟨⟨k + 1, _, by omega, by go_num, by rw [HN1.out, Hu.out, HM.out], (hblk.set_ j _).drewN _, by show _ = _; rw [HN1.out, Hu.out, HM.out]; exact HC2.out _, below_drewN (hbw.setCell (Nat.le_refl _) _) _⟩, by simp [intOf]; omega⟩
          · have HM := Lib.hid (max_ge hda)
            go_wp2_with fail
            go_quiet (fail)
            go_wp2_with fail
            exact ⟨⟨k + 1, _, by omega, by go_num, by rw [HN1.out, Hu.out, HM.out], (hblk.set_ j _).drewN _, by show _ = _; rw [HN1.out, Hu.out, HM.out]; exact HC2.out _, below_drewN (hbw.setCell (Nat.le_refl _) _) _⟩, by simp [intOf]; omega⟩
        · obtain rfl : k = o.length := by omega
          have HNL : Hid (N.length = l.length) := by show _ = _; rw [HO.out]; exact u3
          have HF : Hid (Ans (fun s => s) N.length N 3 w (.returned (.slice (some ⟨w1.heap.size, 0, none⟩) N.length l.length)) wr) :=
            ⟨_, _, rfl, Own.of_blk hblk b1.size hblk.lt (own_cells HC.out HO.out), b1.trans (hbw.mono b1.size)⟩
          rw [HNL.out] at HF
          go_wp2_with fail
          go_ret
          rw [HNL.out]
          exact HF.out

set_option maxHeartbeats 3200000 in
theorem sh_spec (A B : Option Addr) (l : List ShipV) (o : List Int) (c d : Nat) (w : World) (ha : RdShip w A l) (hb : Rd w B o) (hl : l.length ≤ 1048576) (ho : o.length ≤ 1048576) (hd : o.length ≤ d) :
    Calls Try.prog 18 #[.slice A l.length c, .slice B o.length d] w (Ans (fun s => s) (startS l o).length (startS l o) 3 w) := by
  obtain ⟨i0, hi, hz0, hz1, hz2⟩ := info_parts info_int
  obtain ⟨N, HN⟩ : ∃ N, Hid (startS l o = N) := ⟨_, rfl⟩
  rw [HN.out]
  have HNIL : Hid (∀ W A c, Below w.heap.size w W → N = [] → Ans (fun s => s) N.length N 3 w (.returned (.slice A 0 c)) W) := fun W A c hW e => by
    rw [e]; exact ⟨A, c, rfl, Own.nil_, hW⟩
  cases hv : listV l with
  | false =>
    have HQ := Lib.hid (bool_is (lv_spec A l c w ha hl) hv)
    have HO := Lib.hid (HN.out.symm.trans (startS_no1 hv))
    clear hv
    go_enter Try.func18, Try.ntmps18
    go_wp2_with fail
    refine HQ.out.mono ?_
    rintro e w' ⟨rfl, rfl⟩
    go_wp2_with fail
    go_ret
    exact HNIL.out _ _ _ ((Below.refl _ _).alloc (Nat.le_refl _) _) HO.out
  | true =>
    have HQ := Lib.hid (bool_is (lv_spec A l c w ha hl) hv)
    obtain ⟨hve, hl6⟩ := listV_spec hv
    have HV := Lib.hid hv
    have HVE := Lib.hid hve
    clear hv hve
    by_cases hol : o.length = l.length
    · have t0 : ((o.length : Int) != (l.length : Int)) = false := by simp [hol]
      have ho6 : o.length ≤ 5 := by omega
      have HOL := Lib.hid hol
      clear hol
      go_enter Try.func18, Try.ntmps18
      go_wp2_with fail
      refine HQ.out.mono ?_
      rintro e w' ⟨rfl, rfl⟩
      go_wp2_with (at_make; refine wpList_make_full _ rfl _ _ 29 rfl w.heap.size 3 i0 (.int .i64 0) 1 Try.underlying29 hi hz0 hz1 .i64 .i64 _ _ l.length rfl rfl rfl rfl ?c1 ?c2 (Nat.le_refl _) ?_)
      case c1 => rw [hz2]; omega
      case c2 => unfold maxLen; omega
      intro w2 hrow hg1
      obtain ⟨cs0, hb0, hcs0⟩ := blk_of_full hrow rfl
      have hc0 : Hid (cs0.toList = (stTo l o 0).1.map (Value.int .i64)) := by
        show _ = _
        rw [hcs0]; simpa [stTo] using toList_madeCells_one (.int .i64 0) l.length
      have hb2 := below_grown hg1
      clear hrow hg1 hcs0 hz0 hz1 hz2 hi
      go_wp2_with fail
      go_loopw [6, 7] (fun u i wr => ∃ (k : Nat) (cs : Array Value), k ≤ o.length ∧ i = .int .i64 k ∧ u = .int .i64 (stTo l o k).2 ∧ Blk wr w.heap.size 3 cs ∧ Hid (cs.toList = (stTo l o k).1.map (Value.int .i64)) ∧ Hid (permTo o l.length k = true) ∧ Below w.heap.size w wr) (fun _ i _ => o.length - (intOf i).toNat)
      case atStart => exact ⟨0, cs0, by omega, rfl, rfl, hb0, hc0, rfl, hb2⟩
      case round =>
        obtain ⟨k, cs, hk, rfl, rfl, hblk, HC, HK, hbw⟩ := hrel
        obtain ⟨u1, u2, u3, _⟩ := stTo_bd HVE.out o k
        by_cases hlt : k < o.length
        · obtain ⟨b, off, x, rfl, hbx, Hx, hcx0⟩ := hb.at_ hlt
          have hcx := (hbw.cell (p := ⟨b, off + k, none⟩) hbx).trans hcx0
          clear hcx0
          have hbb := hb.below hbw
          have HP := Lib.hid (permTo_next (n := l.length) Hx.out)
          have q0 : (0 : Int) ≤ (k : Int) := by omega
          have q1 : (k : Int) < (o.length : Int) := by omega
          have kd : k ≤ d := by omega
          by_cases hx : 0 ≤ x ∧ x ≤ (l.length : Int) - 1
          · obtain ⟨h, HH⟩ : ∃ h, Hid (hasB o k x = h) := ⟨_, rfl⟩
            have T0 := Lib.hid (fun W => l1In_t x 0 ((l.length : Int) - 1) W hx)
            have T1 := Lib.hid (fun m => bool_is (has_spec (some ⟨b, off, none⟩) o k d x (wr.drewN m) (hbb.drewN m) hk ho) HH.out)
            have HX := Lib.hid hx
            obtain ⟨x0, x9⟩ := hx
            cases h with
            | true =>
              have HO : Hid (N = []) := HN.out.symm.trans (startS_no2 (permV_no (k := k + 1) (by rw [HP.out, HH.out]; simp) (by omega)))
              go_wp2_with fail
              go_quiet ((first | (go_at_call 38; exact quiet_left (T0.out _)) | (go_at_call 42; exact quiet_left (T1.out _)) | (go_at_call 38; exact quiet_one (T0.out _)) | (go_at_call 42; exact quiet_one (T1.out _))))
              go_wp2_with fail
              go_ret
              exact HNIL.out _ _ _ (below_da hbw _ _) HO.out
            | false =>
              have HPN : Hid (permTo o l.length (k + 1) = true) := by show _ = _; rw [HP.out, HK.out, HH.out, decide_eq_true HX.out]; rfl
              obtain ⟨j, rfl⟩ := Int.eq_ofNat_of_zero_le x0
              obtain ⟨b', off', y, rfl, hby, Hy, hy00, hy10⟩ := ha.at_ (k := j) (by omega)
              have hy0 := (hbw.cell (p := ⟨b', off' + j * 2, none⟩) hby).trans hy00
              have hy1 := (hbw.cell (p := ⟨b', off' + j * 2 + 1, none⟩) hby).trans hy10
              clear hy00 hy10
              have hne1 : ¬ b = w.heap.size := by omega
              have hne2 : ¬ b' = w.heap.size := by omega
              have hyb := HVE.out y (mem_at Hy.out)
              unfold oneV at hyb
              obtain ⟨⟨y1, y2⟩, y3, y4⟩ := hyb
              have HN1 := Lib.hid (stTo_next Hx.out Hy.out)
              have q2 : (j : Int) < (l.length : Int) := by omega
              have hjs : j < cs.size := by
                have h := congrArg List.length HC.out
                simp at h
                rw [h, u3]; omega
              have hc2 := (hblk.cell j).trans (Array.getElem?_eq_getElem hjs)
              have hf2 := hblk.frozen j
              obtain ⟨uu, huu⟩ : ∃ uu, cs[j] = uu := ⟨_, rfl⟩
              rw [huu] at hc2
              clear huu
              obtain ⟨u, Hu⟩ : ∃ u, Hid ((stTo l o k).2 = u) := ⟨_, rfl⟩
              rw [Hu.out] at u1 u2 ⊢
              have HC2 : Hid (∀ v : Int, (cs.setIfInBounds j (.int .i64 v)).toList = ((stTo l o k).1.set j v).map (Value.int .i64)) := fun v => by
                rw [Array.toList_setIfInBounds, HC.out, List.map_set]
              obtain ⟨v, HM⟩ : ∃ v, Hid (max u y.arrive = v) := ⟨_, rfl⟩
              have v1 : 0 ≤ v := by have := HM.out; omega
              have v2 : v ≤ 10000 := by have := HM.out; omega
              by_cases hda : u < y.arrive
              · obtain rfl : v = y.arrive := HM.out.symm.trans (max_lt hda)
                go_wp2_with fail
                go_quiet ((first | (go_at_call 38; exact quiet_left (T0.out _)) | (go_at_call 42; exact quiet_left (T1.out _)) | (go_at_call 38; exact quiet_one (T0.out _)) | (go_at_call 42; exact quiet_one (T1.out _))))
                go_wp2_with fail
                go_region_held3 (fun w' => w'.cell? ⟨b, off + k, none⟩ = some (.int .i64 (j : Int)) ∧ w'.cell? ⟨b', off' + j * 2, none⟩ = some (.int .i64 y.arrive) ∧ w'.cell? ⟨b', off' + j * 2 + 1, none⟩ = some (.int .i64 y.hours)) (first | exact ⟨(far1 hne1).trans hcx, (far1 hne2).trans hy0, (far1 hne2).trans hy1⟩ | go_keep) (first | (go_at_call 42; fail))
                go_wp2_with fail
                go_quiet (fail)
                go_wp2_with fail
                exact ⟨⟨k + 1, _, by omega, by go_num, by rw [HN1.out, Hu.out, HM.out], ((hblk.drewN _).set_ j _).drewN _, by show _ = _; rw [HN1.out, Hu.out, HM.out]; exact HC2.out _, HPN.out, below_drewN ((below_drewN hbw _).setCell (Nat.le_refl _) _) _⟩, by simp [intOf]; omega⟩
              · obtain rfl : v = u := HM.out.symm.trans (max_ge hda)
                go_wp2_with fail
                go_quiet ((first | (go_at_call 38; exact quiet_left (T0.out _)) | (go_at_call 42; exact quiet_left (T1.out _)) | (go_at_call 38; exact quiet_one (T0.out _)) | (go_at_call 42; exact quiet_one (T1.out _))))
                go_wp2_with fail
                go_region_held3 (fun w' => w'.cell? ⟨b, off + k, none⟩ = some (.int .i64 (j : Int)) ∧ w'.cell? ⟨b', off' + j * 2, none⟩ = some (.int .i64 y.arrive) ∧ w'.cell? ⟨b', off' + j * 2 + 1, none⟩ = some (.int .i64 y.hours)) (first | exact ⟨(far1 hne1).trans hcx, (far1 hne2).trans hy0, (far1 hne2).trans hy1⟩ | go_keep) (first | (go_at_call 42; fail))
                go_wp2_with fail
                go_quiet (fail)
                go_wp2_with fail
                exact ⟨⟨k + 1, _, by omega, by go_num, by rw [HN1.out, Hu.out, HM.out], ((hblk.drewN _).set_ j _).drewN _, by show _ = _; rw [HN1.out, Hu.out, HM.out]; exact HC2.out _, HPN.out, below_drewN ((below_drewN hbw _).setCell (Nat.le_refl _) _) _⟩, by simp [intOf]; omega⟩
          · have T0 := Lib.hid (fun W => l1In_f x 0 ((l.length : Int) - 1) W hx)
            have HO : Hid (N = []) := HN.out.symm.trans (startS_no2 (permV_no (k := k + 1) (by rw [HP.out, decide_eq_false hx]; simp) (by omega)))
            clear hx
            go_wp2_with fail
            go_quiet ((first | (go_at_call 38; exact quiet_left (T0.out _)) | (go_at_call 38; exact quiet_one (T0.out _))))
            go_wp2_with fail
            go_ret
            exact HNIL.out _ _ _ (below_da hbw _ _) HO.out
        · obtain rfl : k = o.length := by omega
          have HO := Lib.hid (HN.out.symm.trans (startS_yes HV.out (by rw [permV_yes HK.out]; simpa using HOL.out)))
          have HNL : Hid (N.length = l.length) := by show _ = _; rw [HO.out]; exact u3
          have HF : Hid (Ans (fun s => s) N.length N 3 w (.returned (.slice (some ⟨w.heap.size, 0, none⟩) N.length l.length)) wr) :=
            ⟨_, _, rfl, Own.of_blk hblk (Nat.le_refl _) hblk.lt (own_cells HC.out HO.out), hbw⟩
          rw [HNL.out] at HF
          go_wp2_with fail
          go_ret
          rw [HNL.out]
          exact HF.out
    · have t0 : ((o.length : Int) != (l.length : Int)) = true := by simp; omega
      have HO := Lib.hid (HN.out.symm.trans (startS_no2 (permV_len hol)))
      clear hol
      go_enter Try.func18, Try.ntmps18
      go_wp2_with fail
      refine HQ.out.mono ?_
      rintro e w' ⟨rfl, rfl⟩
      go_wp2_with fail
      go_ret
      exact HNIL.out _ _ _ ((Below.refl _ _).alloc (Nat.le_refl _) _) HO.out
end Go.Proofs.Ytjbocijckoaekaa
