/- slices.SortStableFunc at a short list of numbers of the call's own: an insertion sort. -/
import Derived.Test.YtjbocijckoaekaaCom
import Derived.Shelf.Abstract
import Derived.Deep.RegionHeld3
import Derived.BigRegion
import Derived.IntWalk
namespace Go.Proofs.Ytjbocijckoaekaa
open Go.RowKit Go.Shelf
set_option linter.unusedVariables false
set_option linter.unusedSimpArgs false

def sift (cf : Int → Int → Int) : Nat → List Int → List Int
  | 0, q => q
  | j + 1, q => match q[j + 1]?, q[j]? with
    | some x, some y => if cf x y < 0 then sift cf j ((q.set (j + 1) y).set j x) else q
    | _, _ => q
/-- After the numbers up to the k-th have been put in. -/
def insTo (cf : Int → Int → Int) (q : List Int) : Nat → List Int
  | 0 => q
  | k + 1 => sift cf (k + 1) (insTo cf q k)
def insS (cf : Int → Int → Int) (q : List Int) : List Int := insTo cf q (q.length - 1)
theorem sift_length (cf : Int → Int → Int) : ∀ (j : Nat) (q : List Int), (sift cf j q).length = q.length := by
  intro j
  induction j with
  | zero => intro q; rfl
  | succ j ih =>
    intro q
    unfold sift
    split
    · split
      · rw [ih]; simp
      · rfl
    · rfl
theorem insTo_length (cf : Int → Int → Int) (q : List Int) : ∀ k, (insTo cf q k).length = q.length := by
  intro k
  induction k with
  | zero => rfl
  | succ k ih => unfold insTo; rw [sift_length, ih]
theorem sift_mem (cf : Int → Int → Int) {P : Int → Prop} : ∀ (j : Nat) (q : List Int), (∀ x ∈ q, P x) → ∀ x ∈ sift cf j q, P x := by
  intro j
  induction j with
  | zero => intro q h; exact h
  | succ j ih =>
    intro q h
    unfold sift
    split
    · next x y hx hy =>
      split
      · refine ih _ fun z hz => ?_
        rcases List.mem_or_eq_of_mem_set hz with h1 | h1
        · rcases List.mem_or_eq_of_mem_set h1 with h2 | h2
          · exact h z h2
          · rw [h2]; exact h y (List.mem_of_getElem? hy)
        · rw [h1]; exact h x (List.mem_of_getElem? hx)
      · exact h
    · exact h
theorem insTo_mem (cf : Int → Int → Int) {P : Int → Prop} {q : List Int} (h : ∀ x ∈ q, P x) : ∀ k, ∀ x ∈ insTo cf q k, P x := by
  intro k
  induction k with
  | zero => exact h
  | succ k ih => unfold insTo; exact sift_mem cf _ _ ih
theorem sift_go {cf : Int → Int → Int} {j : Nat} {q : List Int} {x y : Int} (hx : q[j + 1]? = some x) (hy : q[j]? = some y) (h : cf x y < 0) : sift cf (j + 1) q = sift cf j ((q.set (j + 1) y).set j x) := by
  rw [sift]; simp only [hx, hy, h, if_true]
theorem sift_stop {cf : Int → Int → Int} {j : Nat} {q : List Int} {x y : Int} (hx : q[j + 1]? = some x) (hy : q[j]? = some y) (h : ¬ cf x y < 0) : sift cf (j + 1) q = q := by
  rw [sift]; simp only [hx, hy, h, if_false]
/-- A comparison that answers cf at all numbers below n, while only block g and new blocks have changed. -/
def CmpB (f : Nat) (lb : Array Value) (cf : Int → Int → Int) (n g : Nat) (w : World) : Prop :=
  ∀ (W : World) (x y : Int), Chg g (g + 1) w W → 0 ≤ x → x < n → 0 ≤ y → y < n → Calls Try.prog f (#[.int .i64 x, .int .i64 y] ++ lb) W fun e w' => e = .returned (.int .i64 (cf x y)) ∧ Below W.heap.size W w'
theorem cells_at {cs : Array Value} {q : List Int} {k : Nat} {x : Int} (h : cs.toList = q.map (Value.int .i64)) (hx : q[k]? = some x) : cs[k]? = some (Value.int .i64 x) := by
  rw [← Array.getElem?_toList, h, List.getElem?_map, hx]; rfl

set_option maxHeartbeats 3200000 in
theorem insertion_any (f : Nat) (lb : Array Value) (eg : ∀ args w, (callFunc f args).run Try.prog w = .ok (.enter f args) w) (cf : Int → Int → Int) (q : List Int) (n g c : Nat) (cs : Array Value) (w : World)
    (hk : Blk w g 3 cs) (hc : cs.toList = q.map (Value.int .i64)) (hq : ∀ x ∈ q, 0 ≤ x ∧ x < n) (hn : q.length = n) (h8 : n ≤ 1000) (hcf : ∀ x y : Int, 0 ≤ x → x < n → 0 ≤ y → y < n → -100000 ≤ cf x y ∧ cf x y ≤ 100000) (hp : CmpB f lb cf n g w) :
    Calls Try.prog 67 #[.slice (some ⟨g, 0, none⟩) n c, .int .i64 0, .int .i64 n, .func (.func f) #[] lb] w fun e w' => e = .returned (.tuple #[]) ∧ (∃ cs' : Array Value, Blk w' g 3 cs' ∧ cs'.toList = (insS cf q).map (Value.int .i64)) ∧ Chg g (g + 1) w w' := by
  have HP := Lib.hid hp
  have HQ := Lib.hid hq
  have HCF := Lib.hid hcf
  have HN := Lib.hid hn
  have HC := Lib.hid hc
  clear hp hq hcf hn hc
  go_enter Try.func67, Try.ntmps67
  go_wp2_with fail
  go_loopw [8] (fun i wr => ∃ (k : Nat) (cs : Array Value), (k ≤ n ∨ k = 0) ∧ (n = 0 → k = 0) ∧ (0 < n → k + 1 ≤ n) ∧ i = .int .i64 ((k : Int) + 1) ∧ Blk wr g 3 cs ∧ Hid (cs.toList = (insTo cf q k).map (Value.int .i64)) ∧ Chg g (g + 1) w wr) (fun i _ => n + 1 - (intOf i).toNat)
  case atStart => exact ⟨0, cs, .inr rfl, fun _ => rfl, fun h => by omega, rfl, hk, HC.out, Chg.refl _ _ _⟩
  case round =>
    obtain ⟨k, cs1, _, hk0, hk1, rfl, hblk, HC1, hch⟩ := hrel
    by_cases hlt : k + 1 < n
    · have HMEM := Lib.hid (insTo_mem cf HQ.out k)
      have HLEN := Lib.hid ((insTo_length cf q k).trans HN.out)
      obtain ⟨Q, HQ0⟩ : ∃ Q, Hid (insTo cf q k = Q) := ⟨_, rfl⟩
      obtain ⟨N, HNN⟩ : ∃ N, Hid (insTo cf q (k + 1) = N) := ⟨_, rfl⟩
      rw [HQ0.out] at HC1 HMEM HLEN
      have HS : Hid (sift cf (k + 1) Q = N) := by show _ = _; rw [← HNN.out, ← HQ0.out]; rfl
      have hdk : decide ((k : Int) + 1 < (n : Int)) = true := by simp; omega
      have hdk2 : (k : Int) + 1 < (n : Int) := by omega
      go_wp2_with fail
      go_loopw [9] (fun j wr => ∃ (m : Nat) (cs : Array Value) (R : List Int), m ≤ k + 1 ∧ j = .int .i64 m ∧ Blk wr g 3 cs ∧ Hid (cs.toList = R.map (Value.int .i64)) ∧ Hid (R.length = n) ∧ Hid (∀ x ∈ R, 0 ≤ x ∧ x < n) ∧ Hid (sift cf m R = N) ∧ Chg g (g + 1) w wr) (fun j _ => (intOf j).toNat)
      case atStart => exact ⟨k + 1, cs1, Q, Nat.le_refl _, by go_num, hblk, HC1.out, HLEN.out, HMEM.out, HS.out, hch⟩
      case round =>
        obtain ⟨m, cs2, R, hm, rfl, hblk2, HC2, HL2, HM2, HS2, hch2⟩ := hrel
        rcases Nat.eq_zero_or_pos m with rfl | hpos
        · go_wp2_with fail
          have HRN : Hid (R = N) := HS2.out
          go_quiet (fail)
          go_wp2_with fail
          exact ⟨⟨k + 1, cs2, .inl (by omega), fun h => absurd h (by omega), fun _ => by omega, by go_num, hblk2.drewN _, by show _ = _; rw [HNN.out, ← HRN.out]; exact HC2.out, hch2.drewN _⟩, by simp [intOf]; omega⟩
        · obtain ⟨j, rfl⟩ : ∃ j, m = j + 1 := ⟨m - 1, by omega⟩
          obtain ⟨x, hx⟩ : ∃ x, R[j + 1]? = some x := ⟨_, List.getElem?_eq_getElem (by have := HL2.out; omega)⟩
          obtain ⟨y, hy⟩ : ∃ y, R[j]? = some y := ⟨_, List.getElem?_eq_getElem (by have := HL2.out; omega)⟩
          have hxb := HM2.out x (List.mem_of_getElem? hx)
          have hyb := HM2.out y (List.mem_of_getElem? hy)
          have cx := (hblk2.cell (j + 1)).trans (cells_at HC2.out hx)
          have cy := (hblk2.cell j).trans (cells_at HC2.out hy)
          have fx := hblk2.frozen (j + 1)
          have fy := hblk2.frozen j
          have HX := Lib.hid hx
          have HY := Lib.hid hy
          have hg := hblk2.lt
          clear hx hy
          have hj1 : ((j + 1 : Nat) : Int) - 1 = (j : Int) := by omega
          have q0 : (0 : Int) ≤ (j : Int) + 1 := by omega
          have q1 : (j : Int) + 1 < (n : Int) := by omega
          have q2 : (0 : Int) ≤ (j : Int) := by omega
          have q3 : (j : Int) < (n : Int) := by omega
          have q6 : (0 : Int) < (j : Int) + 1 := by omega
          have q4 : ((j : Int) + 1).toNat = j + 1 := by omega
          have q5 : IntKind.i64.wrap ((j : Int) + 1 - 1) = (j : Int) := by rw [show (j : Int) + 1 - 1 = (j : Int) from by omega]; exact IntWalk.i64_in _ (by omega)
          have q7 : IntKind.i64.wrap (j : Int) = (j : Int) := IntWalk.i64_in _ (by omega)
          obtain ⟨v, HV⟩ : ∃ v, Hid (cf x y = v) := ⟨_, rfl⟩
          have hvb := HCF.out x y hxb.1 hxb.2 hyb.1 hyb.2
          rw [HV.out] at hvb
          have HCALL : Hid (∀ W : World, Chg g (g + 1) w W → Calls Try.prog f (#[.int .i64 x, .int .i64 y] ++ lb) W fun e w' => e = .returned (.int .i64 v) ∧ Below W.heap.size W w') := fun W hW => by
            rw [← HV.out]; exact HP.out W x y hW hxb.1 hxb.2 hyb.1 hyb.2
          by_cases hv : v < 0
          · have HST : Hid (sift cf j ((R.set (j + 1) y).set j x) = N) := by show _ = _; rw [← HS2.out, sift_go HX.out HY.out (by rw [HV.out]; exact hv)]
            go_wp2_with fail
            go_region_held3 (fun w' => w'.cell? ⟨g, j + 1, none⟩ = some (.int .i64 x) ∧ w'.cell? ⟨g, j, none⟩ = some (.int .i64 y)) (first | exact ⟨(b2.cell (p := ⟨g, j + 1, none⟩) hg).trans cx, (b2.cell (p := ⟨g, j, none⟩) hg).trans cy⟩ | go_keep) (first | (go_at_fn f; refine (HCALL.out _ (hch2.drewN _)).mono ?_; rintro e w2 ⟨rfl, b2⟩))
            have ch3 := (hch2.drewN 0).trans (Chg.of_below (lo := g) (hi := g + 1) ((below_draws _).trans b2) (Nat.le_refl _))
            have bk3 := hblk2.below ((below_draws _).trans b2) hg
            clear cx cy fx fy
            have cx := bk3.cell (j + 1)
            have cy := bk3.cell j
            rw [cells_at HC2.out HX.out] at cx
            rw [cells_at HC2.out HY.out] at cy
            have fx := bk3.frozen (j + 1)
            have fy := bk3.frozen j
            have HC3 : Hid (((cs2.setIfInBounds (j + 1) (.int .i64 y)).setIfInBounds j (.int .i64 x)).toList = ((R.set (j + 1) y).set j x).map (Value.int .i64)) := by
              show _ = _
              rw [Array.toList_setIfInBounds, Array.toList_setIfInBounds, HC2.out, List.map_set, List.map_set]
            have HL3 : Hid (((R.set (j + 1) y).set j x).length = n) := by show _ = _; rw [List.length_set, List.length_set]; exact HL2.out
            have HM3 : Hid (∀ z ∈ (R.set (j + 1) y).set j x, 0 ≤ z ∧ z < (n : Int)) := fun z hz => by
              rcases List.mem_or_eq_of_mem_set hz with h1 | h1
              · rcases List.mem_or_eq_of_mem_set h1 with h2 | h2
                · exact HM2.out z h2
                · rw [h2]; exact hyb
              · rw [h1]; exact hxb
            go_wp2_with fail
            go_region
            go_wp2_with fail
            go_roundw
            case rel => exact ⟨j, _, _, by omega, rfl, ((bk3.set_ (j + 1) (.int .i64 y)).set_ j (.int .i64 x)).drewN 1, HC3.out, HL3.out, HM3.out, HST.out, ((ch3.setCell (p := ⟨g, j + 1, none⟩) (Nat.le_refl _) (Nat.lt_succ_self _) (.int .i64 y)).setCell (p := ⟨g, j, none⟩) (Nat.le_refl _) (Nat.lt_succ_self _) (.int .i64 x)).drewN 1⟩
            case measure => simp [intOf]
          · have HRN : Hid (R = N) := by show _ = _; rw [← HS2.out, sift_stop HX.out HY.out (by rw [HV.out]; exact hv)]
            go_wp2_with fail
            go_region_held3 (fun w' => w'.cell? ⟨g, j + 1, none⟩ = some (.int .i64 x) ∧ w'.cell? ⟨g, j, none⟩ = some (.int .i64 y)) (first | exact ⟨(b2.cell (p := ⟨g, j + 1, none⟩) hg).trans cx, (b2.cell (p := ⟨g, j, none⟩) hg).trans cy⟩ | go_keep) (first | (go_at_fn f; refine (HCALL.out _ (hch2.drewN _)).mono ?_; rintro e w2 ⟨rfl, b2⟩))
            have ch3 := (hch2.drewN 0).trans (Chg.of_below (lo := g) (hi := g + 1) ((below_draws _).trans b2) (Nat.le_refl _))
            have bk3 := hblk2.below ((below_draws _).trans b2) hg
            clear cx cy fx fy
            go_wp2_with fail
            exact ⟨⟨k + 1, cs2, .inl (by omega), fun h => absurd h (by omega), fun _ => by omega, by go_num, bk3, by show _ = _; rw [HNN.out, ← HRN.out]; exact HC2.out, ch3⟩, by simp [intOf]; omega⟩
    · have HE : Hid (insTo cf q k = insS cf q) := by
        show _ = _
        unfold insS
        rw [HN.out]
        congr 1
        rcases Nat.eq_zero_or_pos n with h | h
        · have := hk0 h; omega
        · have := hk1 h; omega
      go_wp2_with fail
      go_end0
      exact ⟨rfl, ⟨cs1, hblk, by rw [HC1.out, HE.out]⟩, hch⟩

set_option maxHeartbeats 1600000 in
theorem stable_any (f : Nat) (lb : Array Value) (eg : ∀ args w, (callFunc f args).run Try.prog w = .ok (.enter f args) w) (cf : Int → Int → Int) (q : List Int) (n g c : Nat) (cs : Array Value) (w : World)
    (hk : Blk w g 3 cs) (hc : cs.toList = q.map (Value.int .i64)) (hq : ∀ x ∈ q, 0 ≤ x ∧ x < n) (hn : q.length = n) (h8 : n ≤ 10) (hcf : ∀ x y : Int, 0 ≤ x → x < n → 0 ≤ y → y < n → -100000 ≤ cf x y ∧ cf x y ≤ 100000) (hp : CmpB f lb cf n g w) :
    Calls Try.prog 57 #[.slice (some ⟨g, 0, none⟩) n c, .int .i64 n, .func (.func f) #[] lb] w fun e w' => e = .returned (.tuple #[]) ∧ (∃ cs' : Array Value, Blk w' g 3 cs' ∧ cs'.toList = (insS cf q).map (Value.int .i64)) ∧ Chg g (g + 1) w w' := by
  have HI := Lib.hid (insertion_any f lb eg cf q n g c cs w hk hc hq hn (by omega) hcf hp)
  clear hk hc hq hn hcf hp
  go_enter Try.func57, Try.ntmps57
  go_wp2_with fail
  go_loop [7, 8] (fun a b => a = .int .i64 0 ∧ b = .int .i64 20) (fun _ _ => 0)
  case atStart => exact ⟨rfl, rfl⟩
  case round =>
    obtain ⟨rfl, rfl⟩ := hrel
    have h20 : ¬ (20 : Int) ≤ (n : Int) := by omega
    go_wp2_with fail
    refine HI.out.mono ?_
    rintro e w1 ⟨rfl, hcs, hch⟩
    have HCS := Lib.hid hcs
    clear hcs
    have h21 : ¬ (20 : Int) < (n : Int) := by omega
    go_wp2_with fail
    go_loop [6] (fun s => s = .int .i64 20) (fun _ => 0)
    case atStart => rfl
    case round =>
      obtain rfl := hrel
      go_wp2_with fail
      go_end0
      exact ⟨rfl, HCS.out, hch⟩
set_option maxHeartbeats 800000 in
theorem sortStable_any (f : Nat) (lb : Array Value) (eg : ∀ args w, (callFunc f args).run Try.prog w = .ok (.enter f args) w) (cf : Int → Int → Int) (q : List Int) (n g c : Nat) (cs : Array Value) (w : World)
    (hk : Blk w g 3 cs) (hc : cs.toList = q.map (Value.int .i64)) (hq : ∀ x ∈ q, 0 ≤ x ∧ x < n) (hn : q.length = n) (h8 : n ≤ 10) (hcf : ∀ x y : Int, 0 ≤ x → x < n → 0 ≤ y → y < n → -100000 ≤ cf x y ∧ cf x y ≤ 100000) (hp : CmpB f lb cf n g w) :
    Calls Try.prog 48 #[.slice (some ⟨g, 0, none⟩) n c, .func (.func f) #[] lb] w fun e w' => e = .returned (.tuple #[]) ∧ (∃ cs' : Array Value, Blk w' g 3 cs' ∧ cs'.toList = (insS cf q).map (Value.int .i64)) ∧ Chg g (g + 1) w w' := by
  have HI := Lib.hid (stable_any f lb eg cf q n g c cs w hk hc hq hn h8 hcf hp)
  clear hk hc hq hn hcf hp
  go_enter Try.func48, Try.ntmps48
  go_wp2_with fail
  refine HI.out.mono ?_
  rintro e w1 ⟨rfl, hcs, hch⟩
  have HCS := Lib.hid hcs
  clear hcs
  go_wp2_with fail
  go_end0
  exact ⟨rfl, HCS.out, hch⟩
end Go.Proofs.Ytjbocijckoaekaa
