/- slices.SortFunc at a short list of boxes of the call's own: an insertion sort. -/
import Derived.Test.YtphncbnnnickhaaBoxesImp
import Derived.BigRegion
import Derived.IntWalk
namespace Go.Proofs.Ytphncbnnnickhaa
open Go.RowKit Go.Shelf
set_option linter.unusedVariables false
set_option linter.unusedSimpArgs false

def sift (cf : BoxV → BoxV → Int) : Nat → List BoxV → List BoxV
  | 0, q => q
  | j + 1, q => match q[j + 1]?, q[j]? with
    | some x, some y => if cf x y < 0 then sift cf j ((q.set (j + 1) y).set j x) else q
    | _, _ => q
/-- After the numbers up to the k-th have been put in. -/
def insTo (cf : BoxV → BoxV → Int) (q : List BoxV) : Nat → List BoxV
  | 0 => q
  | k + 1 => sift cf (k + 1) (insTo cf q k)
def insS (cf : BoxV → BoxV → Int) (q : List BoxV) : List BoxV := insTo cf q (q.length - 1)
theorem sift_length (cf : BoxV → BoxV → Int) : ∀ (j : Nat) (q : List BoxV), (sift cf j q).length = q.length := by
  intro j
  induction j with
  | zero => intro q; rfl
  | succ j ih =>
    intro q
    unfold sift
    split
    · split
      · rw [ih]; simp
      · rfl
    · rfl
theorem insTo_length (cf : BoxV → BoxV → Int) (q : List BoxV) : ∀ k, (insTo cf q k).length = q.length := by
  intro k
  induction k with
  | zero => rfl
  | succ k ih => unfold insTo; rw [sift_length, ih]
theorem sift_mem (cf : BoxV → BoxV → Int) {P : BoxV → Prop} : ∀ (j : Nat) (q : List BoxV), (∀ x ∈ q, P x) → ∀ x ∈ sift cf j q, P x := by
  intro j
  induction j with
  | zero => intro q h; exact h
  | succ j ih =>
    intro q h
    unfold sift
    split
    · next x y hx hy =>
      split
      · refine ih _ fun z hz => ?_
        rcases List.mem_or_eq_of_mem_set hz with h1 | h1
        · rcases List.mem_or_eq_of_mem_set h1 with h2 | h2
          · exact h z h2
          · rw [h2]; exact h y (List.mem_of_getElem? hy)
        · rw [h1]; exact h x (List.mem_of_getElem? hx)
      · exact h
    · exact h
theorem insTo_mem (cf : BoxV → BoxV → Int) {P : BoxV → Prop} {q : List BoxV} (h : ∀ x ∈ q, P x) : ∀ k, ∀ x ∈ insTo cf q k, P x := by
  intro k
  induction k with
  | zero => exact h
  | succ k ih => unfold insTo; exact sift_mem cf _ _ ih
theorem sift_go {cf : BoxV → BoxV → Int} {j : Nat} {q : List BoxV} {x y : BoxV} (hx : q[j + 1]? = some x) (hy : q[j]? = some y) (h : cf x y < 0) : sift cf (j + 1) q = sift cf j ((q.set (j + 1) y).set j x) := by
  rw [sift]; simp only [hx, hy, h, if_true]
theorem sift_stop {cf : BoxV → BoxV → Int} {j : Nat} {q : List BoxV} {x y : BoxV} (hx : q[j + 1]? = some x) (hy : q[j]? = some y) (h : ¬ cf x y < 0) : sift cf (j + 1) q = q := by
  rw [sift]; simp only [hx, hy, h, if_false]
theorem flatBox_set {l : List BoxV} {k : Nat} {x : BoxV} (h : k < l.length) : flatBox (l.set k x) = ((((((flatBox l).set (k * 5) (.int .i64 x.id)).set (k * 5 + 1) (.int .i64 x.weight)).set (k * 5 + 2) (.int .i64 x.class_)).set (k * 5 + 3) (.int .i64 x.port)).set (k * 5 + 4) (.bool x.cold)) := by
  induction l generalizing k with
  | nil => simp at h
  | cons y l ih =>
    cases k with
    | zero => rfl
    | succ k =>
      have h2 : k < l.length := by simpa using h
      rw [List.set_cons_succ]
      show _ :: _ :: _ :: _ :: _ :: flatBox (l.set k x) = _
      rw [ih h2, show (k + 1) * 5 = k * 5 + 1 + 1 + 1 + 1 + 1 from by omega]
      rfl
/-- The cells begin with these. -/
def PreL (cs : Array Value) (L : List Value) : Prop := ∀ (i : Nat) (u : Value), L[i]? = some u → cs[i]? = some u
theorem PreL.set_ {cs : Array Value} {L : List Value} (h : PreL cs L) (i : Nat) (v : Value) : PreL (cs.setIfInBounds i v) (L.set i v) := by
  intro k u hu
  by_cases e : i = k
  · subst e
    have hl : i < L.length := by have := (List.getElem?_eq_some_iff.1 hu).1; simpa using this
    have hs := (Array.getElem?_eq_some_iff.1 (h i _ (List.getElem?_eq_getElem hl))).1
    rw [List.getElem?_set_self hl] at hu
    injection hu with hu
    subst hu
    simp [hs]
  · rw [List.getElem?_set_ne e] at hu
    rw [Array.getElem?_setIfInBounds_ne e]
    exact h k u hu
theorem PreL.setBox {cs : Array Value} {l : List BoxV} (h : PreL cs (flatBox l)) {k : Nat} (x : BoxV) (hk : k < l.length) : PreL (((((cs.setIfInBounds (k * 5) (.int .i64 x.id)).setIfInBounds (k * 5 + 1) (.int .i64 x.weight)).setIfInBounds (k * 5 + 2) (.int .i64 x.class_)).setIfInBounds (k * 5 + 3) (.int .i64 x.port)).setIfInBounds (k * 5 + 4) (.bool x.cold)) (flatBox (l.set k x)) := by
  rw [flatBox_set hk]
  exact ((((h.set_ _ _).set_ _ _).set_ _ _).set_ _ _).set_ _ _
/-- A comparison that answers cf at all boxes that are P, while only block g and new blocks have changed. -/
def CmpB (f : Nat) (lb : Array Value) (cf : BoxV → BoxV → Int) (P : BoxV → Prop) (g : Nat) (w : World) : Prop :=
  ∀ (W : World) (x y : BoxV), Chg g (g + 1) w W → P x → P y → Calls Try.prog f (#[.agg #[.int .i64 x.id, .int .i64 x.weight, .int .i64 x.class_, .int .i64 x.port, .bool x.cold], .agg #[.int .i64 y.id, .int .i64 y.weight, .int .i64 y.class_, .int .i64 y.port, .bool y.cold]] ++ lb) W fun e w' => e = .returned (.int .i64 (cf x y)) ∧ Below W.heap.size W w'
theorem cells_atB {cs : Array Value} {q : List BoxV} {k : Nat} {x : BoxV} (h : PreL cs (flatBox q)) (hx : q[k]? = some x) : cs[k * 5]? = some (.int .i64 x.id) ∧ cs[k * 5 + 1]? = some (.int .i64 x.weight) ∧ cs[k * 5 + 2]? = some (.int .i64 x.class_) ∧ cs[k * 5 + 3]? = some (.int .i64 x.port) ∧ cs[k * 5 + 4]? = some (.bool x.cold) := by
  obtain ⟨e0, e1, e2, e3, e4⟩ := flatBox_at hx
  exact ⟨h _ _ e0, h _ _ e1, h _ _ e2, h _ _ e3, h _ _ e4⟩

set_option maxHeartbeats 6400000 in
theorem insertion_any (f : Nat) (lb : Array Value) (eg : ∀ args w, (callFunc f args).run Try.prog w = .ok (.enter f args) w) (cf : BoxV → BoxV → Int) (P : BoxV → Prop) (q : List BoxV) (n g c : Nat) (cs : Array Value) (w : World)
    (hk : Blk w g 45 cs) (hc : PreL cs (flatBox q)) (hq : ∀ x ∈ q, P x) (hn : q.length = n) (h8 : n ≤ 1000) (hcf : ∀ x y : BoxV, P x → P y → -100000 ≤ cf x y ∧ cf x y ≤ 100000) (hp : CmpB f lb cf P g w) :
    Calls Try.prog 93 #[.slice (some ⟨g, 0, none⟩) n c, .int .i64 0, .int .i64 n, .func (.func f) #[] lb] w fun e w' => e = .returned (.tuple #[]) ∧ (∃ cs' : Array Value, Blk w' g 45 cs' ∧ PreL cs' (flatBox (insS cf q))) ∧ Chg g (g + 1) w w' := by
  have HP := Lib.hid hp
  have HQ := Lib.hid hq
  have HCF := Lib.hid hcf
  have HN := Lib.hid hn
  have HC := Lib.hid hc
  clear hp hq hcf hn hc
  go_enter Try.func93, Try.ntmps93
  go_wp2_with fail
  go_loopw [8] (fun i wr => ∃ (k : Nat) (cs : Array Value), (k ≤ n ∨ k = 0) ∧ (n = 0 → k = 0) ∧ (0 < n → k + 1 ≤ n) ∧ i = .int .i64 ((k : Int) + 1) ∧ Blk wr g 45 cs ∧ Hid (PreL cs (flatBox (insTo cf q k))) ∧ Chg g (g + 1) w wr) (fun i _ => n + 1 - (intOf i).toNat)
  case atStart => exact ⟨0, cs, .inr rfl, fun _ => rfl, fun h => by omega, rfl, hk, HC.out, Chg.refl _ _ _⟩
  case round =>
    obtain ⟨k, cs1, _, hk0, hk1, rfl, hblk, HC1, hch⟩ := hrel
    by_cases hlt : k + 1 < n
    · have HMEM := Lib.hid (insTo_mem cf HQ.out k)
      have HLEN := Lib.hid ((insTo_length cf q k).trans HN.out)
      obtain ⟨Q, HQ0⟩ : ∃ Q, Hid (insTo cf q k = Q) := ⟨_, rfl⟩
      obtain ⟨N, HNN⟩ : ∃ N, Hid (insTo cf q (k + 1) = N) := ⟨_, rfl⟩
      rw [HQ0.out] at HC1 HMEM HLEN
      have HS : Hid (sift cf (k + 1) Q = N) := by show _ = _; rw [← HNN.out, ← HQ0.out]; rfl
      have hdk : decide ((k : Int) + 1 < (n : Int)) = true := by simp; omega
      have hdk2 : (k : Int) + 1 < (n : Int) := by omega
      go_wp2_with fail
      go_loopw [9] (fun j wr => ∃ (m : Nat) (cs : Array Value) (R : List BoxV), m ≤ k + 1 ∧ j = .int .i64 m ∧ Blk wr g 45 cs ∧ Hid (PreL cs (flatBox R)) ∧ Hid (R.length = n) ∧ Hid (∀ x ∈ R, P x) ∧ Hid (sift cf m R = N) ∧ Chg g (g + 1) w wr) (fun j _ => (intOf j).toNat)
      case atStart => exact ⟨k + 1, cs1, Q, Nat.le_refl _, by go_num, hblk, HC1.out, HLEN.out, HMEM.out, HS.out, hch⟩
      case round =>
        obtain ⟨m, cs2, R, hm, rfl, hblk2, HC2, HL2, HM2, HS2, hch2⟩ := hrel
        rcases Nat.eq_zero_or_pos m with rfl | hpos
        · go_wp2_with fail
          have HRN : Hid (R = N) := HS2.out
          go_quiet (fail)
          go_wp2_with fail
          exact ⟨⟨k + 1, cs2, .inl (by omega), fun h => absurd h (by omega), fun _ => by omega, by go_num, hblk2.drewN _, by show PreL _ _; rw [HNN.out, ← HRN.out]; exact HC2.out, hch2.drewN _⟩, by simp [intOf]; omega⟩
        · obtain ⟨j, rfl⟩ : ∃ j, m = j + 1 := ⟨m - 1, by omega⟩
          obtain ⟨x, hx⟩ : ∃ x, R[j + 1]? = some x := ⟨_, List.getElem?_eq_getElem (by have := HL2.out; omega)⟩
          obtain ⟨y, hy⟩ : ∃ y, R[j]? = some y := ⟨_, List.getElem?_eq_getElem (by have := HL2.out; omega)⟩
          have hxb := HM2.out x (List.mem_of_getElem? hx)
          have hyb := HM2.out y (List.mem_of_getElem? hy)
          have ex := cells_atB HC2.out hx
          have ey := cells_atB HC2.out hy
          have cx0 := (hblk2.cell ((j + 1) * 5)).trans ex.1
          have cy0 := (hblk2.cell (j * 5)).trans ey.1
          have fx0 := hblk2.frozen ((j + 1) * 5)
          have fy0 := hblk2.frozen (j * 5)
          have cx1 := (hblk2.cell ((j + 1) * 5 + 1)).trans ex.2.1
          have cy1 := (hblk2.cell (j * 5 + 1)).trans ey.2.1
          have fx1 := hblk2.frozen ((j + 1) * 5 + 1)
          have fy1 := hblk2.frozen (j * 5 + 1)
          have cx2 := (hblk2.cell ((j + 1) * 5 + 2)).trans ex.2.2.1
          have cy2 := (hblk2.cell (j * 5 + 2)).trans ey.2.2.1
          have fx2 := hblk2.frozen ((j + 1) * 5 + 2)
          have fy2 := hblk2.frozen (j * 5 + 2)
          have cx3 := (hblk2.cell ((j + 1) * 5 + 3)).trans ex.2.2.2.1
          have cy3 := (hblk2.cell (j * 5 + 3)).trans ey.2.2.2.1
          have fx3 := hblk2.frozen ((j + 1) * 5 + 3)
          have fy3 := hblk2.frozen (j * 5 + 3)
          have cx4 := (hblk2.cell ((j + 1) * 5 + 4)).trans ex.2.2.2.2
          have cy4 := (hblk2.cell (j * 5 + 4)).trans ey.2.2.2.2
          have fx4 := hblk2.frozen ((j + 1) * 5 + 4)
          have fy4 := hblk2.frozen (j * 5 + 4)
          clear ex ey
          have HX := Lib.hid hx
          have HY := Lib.hid hy
          have hg := hblk2.lt
          clear hx hy
          have hj1 : ((j + 1 : Nat) : Int) - 1 = (j : Int) := by omega
          have q0 : (0 : Int) ≤ (j : Int) + 1 := by omega
          have q1 : (j : Int) + 1 < (n : Int) := by omega
          have q2 : (0 : Int) ≤ (j : Int) := by omega
          have q3 : (j : Int) < (n : Int) := by omega
          have q6 : (0 : Int) < (j : Int) + 1 := by omega
          have q4 : ((j : Int) + 1).toNat = j + 1 := by omega
          have q5 : IntKind.i64.wrap ((j : Int) + 1 - 1) = (j : Int) := by rw [show (j : Int) + 1 - 1 = (j : Int) from by omega]; exact IntWalk.i64_in _ (by omega)
          have q7 : IntKind.i64.wrap (j : Int) = (j : Int) := IntWalk.i64_in _ (by omega)
          obtain ⟨v, HV⟩ : ∃ v, Hid (cf x y = v) := ⟨_, rfl⟩
          have hvb := HCF.out x y hxb hyb
          rw [HV.out] at hvb
          have HCALL : Hid (∀ W : World, Chg g (g + 1) w W → Calls Try.prog f (#[.agg #[.int .i64 x.id, .int .i64 x.weight, .int .i64 x.class_, .int .i64 x.port, .bool x.cold], .agg #[.int .i64 y.id, .int .i64 y.weight, .int .i64 y.class_, .int .i64 y.port, .bool y.cold]] ++ lb) W fun e w' => e = .returned (.int .i64 v) ∧ Below W.heap.size W w') := fun W hW => by
            rw [← HV.out]; exact HP.out W x y hW hxb hyb
          by_cases hv : v < 0
          · have HST : Hid (sift cf j ((R.set (j + 1) y).set j x) = N) := by show _ = _; rw [← HS2.out, sift_go HX.out HY.out (by rw [HV.out]; exact hv)]
            go_wp2_with fail
            go_region_held3 (fun w' => w'.cell? ⟨g, (j + 1) * 5, none⟩ = some (.int .i64 x.id) ∧ w'.cell? ⟨g, (j + 1) * 5 + 1, none⟩ = some (.int .i64 x.weight) ∧ w'.cell? ⟨g, (j + 1) * 5 + 2, none⟩ = some (.int .i64 x.class_) ∧ w'.cell? ⟨g, (j + 1) * 5 + 3, none⟩ = some (.int .i64 x.port) ∧ w'.cell? ⟨g, (j + 1) * 5 + 4, none⟩ = some (.bool x.cold) ∧ w'.cell? ⟨g, j * 5, none⟩ = some (.int .i64 y.id) ∧ w'.cell? ⟨g, j * 5 + 1, none⟩ = some (.int .i64 y.weight) ∧ w'.cell? ⟨g, j * 5 + 2, none⟩ = some (.int .i64 y.class_) ∧ w'.cell? ⟨g, j * 5 + 3, none⟩ = some (.int .i64 y.port) ∧ w'.cell? ⟨g, j * 5 + 4, none⟩ = some (.bool y.cold)) (first | exact ⟨(b2.cell (p := ⟨g, (j + 1) * 5, none⟩) hg).trans cx0, (b2.cell (p := ⟨g, (j + 1) * 5 + 1, none⟩) hg).trans cx1, (b2.cell (p := ⟨g, (j + 1) * 5 + 2, none⟩) hg).trans cx2, (b2.cell (p := ⟨g, (j + 1) * 5 + 3, none⟩) hg).trans cx3, (b2.cell (p := ⟨g, (j + 1) * 5 + 4, none⟩) hg).trans cx4, (b2.cell (p := ⟨g, j * 5, none⟩) hg).trans cy0, (b2.cell (p := ⟨g, j * 5 + 1, none⟩) hg).trans cy1, (b2.cell (p := ⟨g, j * 5 + 2, none⟩) hg).trans cy2, (b2.cell (p := ⟨g, j * 5 + 3, none⟩) hg).trans cy3, (b2.cell (p := ⟨g, j * 5 + 4, none⟩) hg).trans cy4⟩ | go_keep) (first | (go_at_fn f; refine (HCALL.out _ (hch2.drewN _)).mono ?_; rintro e w2 ⟨rfl, b2⟩))
            have ch3 := (hch2.drewN 0).trans (Chg.of_below (lo := g) (hi := g + 1) ((below_draws _).trans b2) (Nat.le_refl _))
            have bk3 := hblk2.below ((below_draws _).trans b2) hg
            clear cx0 fx0 cx1 fx1 cx2 fx2 cx3 fx3 cx4 fx4 cy0 fy0 cy1 fy1 cy2 fy2 cy3 fy3 cy4 fy4
            have ex := cells_atB HC2.out HX.out
            have ey := cells_atB HC2.out HY.out
            have cx0 := (bk3.cell ((j + 1) * 5)).trans ex.1
            have cy0 := (bk3.cell (j * 5)).trans ey.1
            have fx0 := bk3.frozen ((j + 1) * 5)
            have fy0 := bk3.frozen (j * 5)
            have cx1 := (bk3.cell ((j + 1) * 5 + 1)).trans ex.2.1
            have cy1 := (bk3.cell (j * 5 + 1)).trans ey.2.1
            have fx1 := bk3.frozen ((j + 1) * 5 + 1)
            have fy1 := bk3.frozen (j * 5 + 1)
            have cx2 := (bk3.cell ((j + 1) * 5 + 2)).trans ex.2.2.1
            have cy2 := (bk3.cell (j * 5 + 2)).trans ey.2.2.1
            have fx2 := bk3.frozen ((j + 1) * 5 + 2)
            have fy2 := bk3.frozen (j * 5 + 2)
            have cx3 := (bk3.cell ((j + 1) * 5 + 3)).trans ex.2.2.2.1
            have cy3 := (bk3.cell (j * 5 + 3)).trans ey.2.2.2.1
            have fx3 := bk3.frozen ((j + 1) * 5 + 3)
            have fy3 := bk3.frozen (j * 5 + 3)
            have cx4 := (bk3.cell ((j + 1) * 5 + 4)).trans ex.2.2.2.2
            have cy4 := (bk3.cell (j * 5 + 4)).trans ey.2.2.2.2
            have fx4 := bk3.frozen ((j + 1) * 5 + 4)
            have fy4 := bk3.frozen (j * 5 + 4)
            clear ex ey
            have HC3 : Hid (PreL ((((((((((cs2.setIfInBounds ((j + 1) * 5) (.int .i64 y.id)).setIfInBounds ((j + 1) * 5 + 1) (.int .i64 y.weight)).setIfInBounds ((j + 1) * 5 + 2) (.int .i64 y.class_)).setIfInBounds ((j + 1) * 5 + 3) (.int .i64 y.port)).setIfInBounds ((j + 1) * 5 + 4) (.bool y.cold)).setIfInBounds (j * 5) (.int .i64 x.id)).setIfInBounds (j * 5 + 1) (.int .i64 x.weight)).setIfInBounds (j * 5 + 2) (.int .i64 x.class_)).setIfInBounds (j * 5 + 3) (.int .i64 x.port)).setIfInBounds (j * 5 + 4) (.bool x.cold)) (flatBox ((R.set (j + 1) y).set j x))) := by
              exact (HC2.out.setBox y (by have := HL2.out; omega)).setBox x (by rw [List.length_set]; have := HL2.out; omega)
            have HL3 : Hid (((R.set (j + 1) y).set j x).length = n) := by show _ = _; rw [List.length_set, List.length_set]; exact HL2.out
            have HM3 : Hid (∀ z ∈ (R.set (j + 1) y).set j x, P z) := fun z hz => by
              rcases List.mem_or_eq_of_mem_set hz with h1 | h1
              · rcases List.mem_or_eq_of_mem_set h1 with h2 | h2
                · exact HM2.out z h2
                · rw [h2]; exact hyb
              · rw [h1]; exact hxb
            go_wp2_with fail
            go_region
            go_wp2_with fail
            go_roundw
            case rel => exact ⟨j, _, _, by omega, rfl, ((((((((((bk3.set_ ((j + 1) * 5) (.int .i64 y.id)).set_ ((j + 1) * 5 + 1) (.int .i64 y.weight)).set_ ((j + 1) * 5 + 2) (.int .i64 y.class_)).set_ ((j + 1) * 5 + 3) (.int .i64 y.port)).set_ ((j + 1) * 5 + 4) (.bool y.cold)).set_ (j * 5) (.int .i64 x.id)).set_ (j * 5 + 1) (.int .i64 x.weight)).set_ (j * 5 + 2) (.int .i64 x.class_)).set_ (j * 5 + 3) (.int .i64 x.port)).set_ (j * 5 + 4) (.bool x.cold)).drewN 1, HC3.out, HL3.out, HM3.out, HST.out, ((((((((((ch3.setCell (p := ⟨g, (j + 1) * 5, none⟩) (Nat.le_refl _) (Nat.lt_succ_self _) (.int .i64 y.id)).setCell (p := ⟨g, (j + 1) * 5 + 1, none⟩) (Nat.le_refl _) (Nat.lt_succ_self _) (.int .i64 y.weight)).setCell (p := ⟨g, (j + 1) * 5 + 2, none⟩) (Nat.le_refl _) (Nat.lt_succ_self _) (.int .i64 y.class_)).setCell (p := ⟨g, (j + 1) * 5 + 3, none⟩) (Nat.le_refl _) (Nat.lt_succ_self _) (.int .i64 y.port)).setCell (p := ⟨g, (j + 1) * 5 + 4, none⟩) (Nat.le_refl _) (Nat.lt_succ_self _) (.bool y.cold)).setCell (p := ⟨g, j * 5, none⟩) (Nat.le_refl _) (Nat.lt_succ_self _) (.int .i64 x.id)).setCell (p := ⟨g, j * 5 + 1, none⟩) (Nat.le_refl _) (Nat.lt_succ_self _) (.int .i64 x.weight)).setCell (p := ⟨g, j * 5 + 2, none⟩) (Nat.le_refl _) (Nat.lt_succ_self _) (.int .i64 x.class_)).setCell (p := ⟨g, j * 5 + 3, none⟩) (Nat.le_refl _) (Nat.lt_succ_self _) (.int .i64 x.port)).setCell (p := ⟨g, j * 5 + 4, none⟩) (Nat.le_refl _) (Nat.lt_succ_self _) (.bool x.cold)).drewN 1⟩
            case measure => simp [intOf]
          · have HRN : Hid (R = N) := by show _ = _; rw [← HS2.out, sift_stop HX.out HY.out (by rw [HV.out]; exact hv)]
            go_wp2_with fail
            go_region_held3 (fun w' => w'.cell? ⟨g, (j + 1) * 5, none⟩ = some (.int .i64 x.id) ∧ w'.cell? ⟨g, (j + 1) * 5 + 1, none⟩ = some (.int .i64 x.weight) ∧ w'.cell? ⟨g, (j + 1) * 5 + 2, none⟩ = some (.int .i64 x.class_) ∧ w'.cell? ⟨g, (j + 1) * 5 + 3, none⟩ = some (.int .i64 x.port) ∧ w'.cell? ⟨g, (j + 1) * 5 + 4, none⟩ = some (.bool x.cold) ∧ w'.cell? ⟨g, j * 5, none⟩ = some (.int .i64 y.id) ∧ w'.cell? ⟨g, j * 5 + 1, none⟩ = some (.int .i64 y.weight) ∧ w'.cell? ⟨g, j * 5 + 2, none⟩ = some (.int .i64 y.class_) ∧ w'.cell? ⟨g, j * 5 + 3, none⟩ = some (.int .i64 y.port) ∧ w'.cell? ⟨g, j * 5 + 4, none⟩ = some (.bool y.cold)) (first | exact ⟨(b2.cell (p := ⟨g, (j + 1) * 5, none⟩) hg).trans cx0, (b2.cell (p := ⟨g, (j + 1) * 5 + 1, none⟩) hg).trans cx1, (b2.cell (p := ⟨g, (j + 1) * 5 + 2, none⟩) hg).trans cx2, (b2.cell (p := ⟨g, (j + 1) * 5 + 3, none⟩) hg).trans cx3, (b2.cell (p := ⟨g, (j + 1) * 5 + 4, none⟩) hg).trans cx4, (b2.cell (p := ⟨g, j * 5, none⟩) hg).trans cy0, (b2.cell (p := ⟨g, j * 5 + 1, none⟩) hg).trans cy1, (b2.cell (p := ⟨g, j * 5 + 2, none⟩) hg).trans cy2, (b2.cell (p := ⟨g, j * 5 + 3, none⟩) hg).trans cy3, (b2.cell (p := ⟨g, j * 5 + 4, none⟩) hg).trans cy4⟩ | go_keep) (first | (go_at_fn f; refine (HCALL.out _ (hch2.drewN _)).mono ?_; rintro e w2 ⟨rfl, b2⟩))
            have ch3 := (hch2.drewN 0).trans (Chg.of_below (lo := g) (hi := g + 1) ((below_draws _).trans b2) (Nat.le_refl _))
            have bk3 := hblk2.below ((below_draws _).trans b2) hg
            clear cx0 fx0 cx1 fx1 cx2 fx2 cx3 fx3 cx4 fx4 cy0 fy0 cy1 fy1 cy2 fy2 cy3 fy3 cy4 fy4
            go_wp2_with fail
            exact ⟨⟨k + 1, cs2, .inl (by omega), fun h => absurd h (by omega), fun _ => by omega, by go_num, bk3, by show PreL _ _; rw [HNN.out, ← HRN.out]; exact HC2.out, ch3⟩, by simp [intOf]; omega⟩
    · have HE : Hid (insTo cf q k = insS cf q) := by
        show _ = _
        unfold insS
        rw [HN.out]
        congr 1
        rcases Nat.eq_zero_or_pos n with h | h
        · have := hk0 h; omega
        · have := hk1 h; omega
      go_wp2_with fail
      go_end0
      exact ⟨rfl, ⟨cs1, hblk, by rw [← HE.out]; exact HC1.out⟩, hch⟩

end Go.Proofs.Ytphncbnnnickhaa
