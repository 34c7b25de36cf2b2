/- The best division, walked through the reference model. -/
import Derived.Test.YtoopmikcehmpdaaShareBest2
namespace Go.Proofs.Ytoopmikcehmpdaa
open Go.RowKit
set_option linter.unusedVariables false
set_option linter.unusedSimpArgs false

/-- All lists that begin with q and go on with d numbers from a on. -/
def preL (n a d : Nat) (q : List Int) : List (List Int) := (enumF n a d).map fun t => q ++ t
def lastN (q : List Int) : Nat := ((q.getLast?).getD 0).toNat
theorem preL_0 (n a : Nat) (q : List Int) : preL n a 0 q = [q] := by simp [preL, enumF]
def blocksTo (n a d : Nat) (q : List Int) (j : Nat) : List (List Int) := (List.range j).flatMap fun k => preL n (a + k) d (q ++ [((a + k : Nat) : Int)])
theorem preL_next (n a d : Nat) (q : List Int) : preL n a (d + 1) q = blocksTo n a d q (n + 1 - a) := by
  unfold preL blocksTo
  simp only [enumF, List.map_flatMap]
  refine congrArg (fun g => List.flatMap g _) ?_
  funext k
  simp [preL, List.map_map, Function.comp_def]
theorem blocksTo_next (n a d : Nat) (q : List Int) (j : Nat) : blocksTo n a d q (j + 1) = blocksTo n a d q j ++ preL n (a + j) d (q ++ [((a + j : Nat) : Int)]) := by
  simp [blocksTo, List.range_succ]
theorem last_app (q : List Int) (a : Nat) : lastN (q ++ [(a : Int)]) = a := by simp [lastN]
theorem preL_mem {n a d : Nat} {q x : List Int} (h : x ∈ preL n a d q) : x.length = q.length + d := by
  unfold preL at h
  rw [List.mem_map] at h
  obtain ⟨t, ht, rfl⟩ := h
  simp [(enumF_mem ht).1]
theorem blocks_mem {n a d j : Nat} {q x : List Int} (h : x ∈ blocksTo n a d q j) : x.length = q.length + 1 + d := by
  unfold blocksTo at h
  rw [List.mem_flatMap] at h
  obtain ⟨k, _, hk⟩ := h
  have := preL_mem hk
  simp at this
  omega
theorem first_step {f : List Int → Int} {L M : List (List Int)} {b x : List Int} (h1 : firstMin f L = some b) (h2 : firstMin f M = some x) : firstMin f (L ++ M) = some (if f x < f b then x else b) := by
  rw [firstMin_append, h1, h2]; simp only [comb, upd]; split <;> rfl
theorem first_start {f : List Int → Int} {M : List (List Int)} {x : List Int} (h2 : firstMin f M = some x) : firstMin f ([] ++ M) = some x := h2

theorem row_some {w : World} {base n : Nat} {t : TypeId} {v : Value} {xs : List Value} (h : w.ownsRow base t 1 v n xs) (hx : xs ≠ []) : ∃ g c, v = .slice (some ⟨g, 0, none⟩) n c := by
  rcases h.2 with ⟨rfl, h0⟩ | ⟨g, cap, cur, rfl, _⟩
  · exact absurd (List.eq_nil_of_length_eq_zero (by rw [h.1, h0])) hx
  · exact ⟨g, cap, rfl⟩
theorem best3_start {f : List Int → Int} {n a d j : Nat} {q y : List Int} (hj : j = 0) (h : firstMin f (preL n (a + j) d (q ++ [((a + j : Nat) : Int)])) = some y) : firstMin f (blocksTo n a d q (j + 1)) = some y := by
  rw [blocksTo_next, hj]; rw [hj] at h; exact h
theorem best3_step {f : List Int → Int} {n a d j : Nat} {q y z : List Int} (hz : firstMin f (blocksTo n a d q j) = some z) (h : firstMin f (preL n (a + j) d (q ++ [((a + j : Nat) : Int)])) = some y) : firstMin f (blocksTo n a d q (j + 1)) = some (if f y < f z then y else z) := by
  rw [blocksTo_next]; exact first_step hz h

/-- The best of some lists lies in a slice of the call's own. -/
def BestOf (f : List Int → Int) (L : List (List Int)) (lo : Nat) (b : Value) (wr : World) : Prop :=
  ∃ (A : Option Addr) (c : Nat) (x : List Int), b = .slice A x.length c ∧ firstMin f L = some x ∧ Own 3 wr lo wr.heap.size A x ∧ x.length ≤ 3
theorem BestOf.below {f : List Int → Int} {L : List (List Int)} {lo : Nat} {b : Value} {w w' : World} (h : BestOf f L lo b w) (hc : Below w.heap.size w w') : BestOf f L lo b w' := by
  obtain ⟨A, c, x, h1, h2, h3, h4⟩ := h
  exact ⟨A, c, x, h1, h2, (h3.below hc (Nat.le_refl _)).wide (Nat.le_refl _) hc.size, h4⟩
def BestPost (f : List Int → Int) (L : List (List Int)) (lo : Nat) (w : World) (e : Ending) (w' : World) : Prop :=
  ∃ b, e = .returned b ∧ BestOf f L lo b w' ∧ Below w.heap.size w w'

set_option maxHeartbeats 1600000 in
theorem l18Best_any (l : List Int) (hv : workV l = true) (A : Option Addr) (c : Nat) (m : Nat) (hm : m ≤ 3) : ∀ (d : Nat) (q : List Int) (g cB lo hi : Nat) (w : World), q.length + d = m → (∀ y ∈ q, 0 ≤ y ∧ y ≤ (l.length : Int)) →
    Rd w A l → Own 3 w lo hi (some ⟨g, 0, none⟩) q → lo ≤ w.heap.size → hi ≤ w.heap.size →
    Calls Try.prog 34 #[.slice A l.length c, .slice (some ⟨g, 0, none⟩) q.length cB, .int .i64 m] w (BestPost (greatS l) (preL l.length (lastN q) d q) lo w) := by
  intro d
  induction d with
  | zero =>
    intro q g cB lo hi w hq hqv ha hb h1 h2
    have hL : preL l.length (lastN q) 0 q = [q] := preL_0 _ _ _
    rw [hL]
    obtain rfl : q.length = m := by omega
    go_enter Try.func34, Try.ntmps34
    go_wp2_with fail
    go_ret
    exact ⟨_, rfl, ⟨_, cB, q, rfl, rfl, hb.wide (Nat.le_refl _) h2, hm⟩, Below.refl _ _⟩
  | succ d ih =>
    intro q g cB lo hi w hq hqv ha hb h1 h2
    have h8 := (workV_spec hv).2
    have hl : l.length ≤ 1048576 := by omega
    obtain ⟨i0, hi0, hz0, hz1, hz2⟩ := info_parts info_int
    obtain ⟨f, hf⟩ : ∃ f : List Int → Int, f = greatS l := ⟨_, rfl⟩
    rw [← hf]
    rw [← hf] at ih
    have HGS : Hid (∀ (B : Option Addr) (q : List Int) (d : Nat) (W : World), Below w.heap.size w W → Rd W B q → q.length ≤ 3 → Calls Try.prog 19 #[.slice A l.length c, .slice B q.length d] W fun e w' => e = .returned (.int .i64 (f q)) ∧ Below W.heap.size W w') := fun B q d W h1 h2 h3 => by
      rw [hf]; exact gs_spec A B l q c d W (ha.below h1) h2 hl (by omega)
    have HL := Lib.hid (preL_next l.length (lastN q) d q)
    have HIH := Lib.hid ih
    have HQV := Lib.hid hqv
    have HQL := Lib.hid hq
    have hqm : q.length < m := by omega
    have hne : ((q.length : Int) == (m : Int)) = false := beq_eq_false_iff_ne.2 (by omega)
    obtain ⟨a, HA⟩ : ∃ a, Hid (lastN q = a) := ⟨_, rfl⟩
    rw [HA.out]
    rw [HA.out] at HL
    have hal : a ≤ l.length := by
      rw [← HA.out]
      unfold lastN
      cases hg : q.getLast? with
      | none => simp
      | some y =>
        have := hqv y (List.mem_of_getLast? hg)
        simp; omega
    clear ih hf hqv hq
    have hgo : True := trivial
    by_cases hq0 : 0 < q.length
    case' pos =>
      obtain ⟨b, off, x, e, _, Hx, hcx⟩ := hb.rd.at_ (k := q.length - 1) (by omega)
      injection e with e
      injection e with e1 e2 e3
      subst e1 e2
      have HX : Hid (x = (a : Int)) := by
        show _ = _
        have h3 := HA.out
        have h4 := Hx.out
        have h5 := HQV.out x (mem_at h4)
        unfold lastN at h3
        rw [List.getLast?_eq_getElem?, h4] at h3
        simp at h3
        omega
      rw [HX.out, Nat.zero_add] at hcx
      have q1 : (0 : Int) ≤ (q.length : Int) - 1 := by omega
      have q2 : (q.length : Int) - 1 < (q.length : Int) := by omega
      have q3 : ((q.length : Int) - 1).toNat = q.length - 1 := by omega
      go_enter Try.func34, Try.ntmps34
      go_wp2_with fail
      clear hcx q1 q2 q3 HX Hx x e3
    case' neg =>
      have ha0 : a = 0 := by
        have h3 := HA.out
        rw [List.eq_nil_of_length_eq_zero (show q.length = 0 by omega)] at h3
        simpa [lastN] using h3.symm
      have HA0 := Lib.hid ha0
      clear ha0
      go_enter Try.func34, Try.ntmps34
      go_wp2_with fail
    all_goals
      go_loopw [7, 8, 10] (fun bv fv kv wr => ∃ j : Nat, ((j = 0 ∧ fv = .bool false ∧ bv = .slice (some ⟨w.heap.size, 0, none⟩) 0 0) ∨ (0 < j ∧ fv = .bool true ∧ BestOf f (blocksTo l.length a d q j) w.heap.size bv wr)) ∧ j ≤ l.length + 1 - a ∧ kv = .int .i64 ((a + j : Nat) : Int) ∧ Below w.heap.size w wr ∧ w.heap.size < wr.heap.size) (fun _ _ kv _ => l.length + 1 - (intOf kv).toNat)
      case atStart => exact ⟨0, .inl ⟨rfl, rfl, rfl⟩, by omega, by first | go_num | (rw [HA0.out]; rfl), (Below.refl _ _).alloc (Nat.le_refl _) _, by simp⟩
      case round =>
        obtain ⟨j, hst, hj, rfl, hbw, hzw⟩ := hrel
        by_cases hlt : a + j ≤ l.length
        · have hrd : Rd wr (some ⟨g, 0, none⟩) q := (hb.below hbw h2).rd
          have HR : Hid (∀ (g' c' : Nat) (W : World), Below w.heap.size w W → wr.heap.size ≤ W.heap.size → Own 3 W wr.heap.size W.heap.size (some ⟨g', 0, none⟩) (q ++ [((a + j : Nat) : Int)]) → Calls Try.prog 34 #[.slice A l.length c, .slice (some ⟨g', 0, none⟩) (q.length + 1) c', .int .i64 m] W (BestPost f (preL l.length (a + j) d (q ++ [((a + j : Nat) : Int)])) wr.heap.size W)) := fun g' c' W k1 k2 k3 => by
            have h := HIH.out (q ++ [((a + j : Nat) : Int)]) g' c' wr.heap.size W.heap.size W (by simp; have := HQL.out; omega) (by
              intro y hy
              rcases List.mem_append.1 hy with h4 | h4
              · exact HQV.out y h4
              · rw [List.mem_singleton.1 h4]; omega) (ha.below k1) k3 k2 (Nat.le_refl _)
            rw [last_app] at h
            simpa only [List.length_append, List.length_singleton] using h
          obtain ⟨kx, hkx⟩ : ∃ kx : Int, kx = ((a + j : Nat) : Int) := ⟨_, rfl⟩
          have HKX := Lib.hid hkx
          have hk0 : 0 ≤ kx := by omega
          have hk1 : kx ≤ (l.length : Int) := by omega
          rw [← hkx] at HR ⊢
          clear hkx
          have hone : ∀ u ∈ [Value.int .i64 kx], u.oneCell' = true := fun u hu => by rw [List.mem_singleton.1 hu]; rfl
          have m3 : q.length + 1 ≤ maxLen := by unfold maxLen; omega
          have m4 : (q.length + 1) * 8 ≤ 140737488355328 := by omega
          rcases hst with ⟨hj0, rfl, rfl⟩ | ⟨hj0, rfl, hbest⟩
          all_goals
            have HJ0 := Lib.hid hj0
            clear hj0
            go_wp2_with (at_builtin; refine wpList_append_own _ rfl _ _ 22 rfl wr.heap.size 3 i0 (.int .i64 0) 1 8 Try.underlying22 hi0 hz0 hz1 hz2 rfl (by decide) _ 0 [] rfl (World.ownsRow_lit wr #[] 0 (Nat.le_refl _) (by unfold maxLen; omega) rfl) ⟨g, 0, none⟩ q.length cB (q.map (Value.int .i64)) rfl (by simp) (hrd.news (cell_alloc_old _)) (ints_oneCell .i64 q) ?c3 ?c4 ?c5 ?_)
            case c3 => unfold maxLen; omega
            case c4 => omega
            case c5 => simp
            intro v3 w3 hown3 hgrow3 _
            have B3 := ((Below.refl wr.heap.size wr).alloc (Nat.le_refl _) (.cells #[] 3)).grown hgrow3 (by simp) (fun k e => by simp [Value.ownBlock] at e; omega)
            try simp only [Nat.zero_add, List.nil_append] at hown3
            have hbk := hown3.lt
            have hz3 := B3.size
            have m5 : wr.heap.size ≤ (w3.alloc (.cells #[.int .i64 kx] 3)).heap.size := by simp; omega
            clear hgrow3
            go_wp2_with (at_builtin; refine wpList_append_own _ rfl _ _ 22 rfl wr.heap.size 3 i0 (.int .i64 0) 1 8 Try.underlying22 hi0 hz0 hz1 hz2 rfl (by decide) _ _ _ rfl (hown3.alloc _) ⟨w3.heap.size, 0, none⟩ 1 1 [.int .i64 kx] rfl rfl (cell_one_new _ _ _) hone m3 m4 m5 ?_)
            intro v4 w4 hown4 hgrow4 _
            have B4 := (B3.alloc hz3 (.cells #[.int .i64 kx] 3)).grown hgrow4 (by simp; omega) (fun k e => (hbk k e).1)
            have hz4 := B4.size
            obtain ⟨g4, c4, rfl⟩ := row_some hown4 (by simp)
            have o4 : Own 3 w4 wr.heap.size w4.heap.size (some ⟨g4, 0, none⟩) (q ++ [kx]) := Own.of_row (by rw [List.map_append]; exact hown4) (Nat.le_refl _)
            have hbw4 := hbw.trans (B4.mono (Nat.le_of_lt hzw))
            clear hown3 hgrow4 hown4 m5
            go_wp2_with fail
            refine (HR.out g4 c4 w4 hbw4 hz4 o4).mono ?_
            rintro e w5 ⟨b5, rfl, ⟨A5, c5, y, rfl, hf5, ho5, hl5⟩, b5⟩
            have HF5 := Lib.hid hf5
            have HO5 := Lib.hid ho5
            have hbw5 := hbw4.trans (b5.mono (by omega))
            have hz5 := b5.size
            clear hf5 ho5 o4
          · go_wp2_with fail
            exact ⟨⟨j + 1, .inr ⟨by omega, rfl, A5, c5, y, rfl, best3_start HJ0.out (by rw [← HKX.out]; exact HF5.out), HO5.out.wide (by omega) (Nat.le_refl _), hl5⟩, by omega, by rw [HKX.out]; go_num, hbw5, by omega⟩, by rw [HKX.out]; simp [intOf]; omega⟩
          · obtain ⟨A6, c6, z, rfl, hf6, ho6, hl6⟩ := (hbest.below B4).below b5
            have HF6 := Lib.hid hf6
            have HO6 := Lib.hid ho6
            clear hf6 ho6 hbest
            go_wp2_with fail
            refine (HGS.out A5 y c5 w5 hbw5 HO5.out.rd hl5).mono ?_
            rintro e w6 ⟨rfl, b6⟩
            have hbw6 := hbw5.trans (b6.mono (by omega))
            have o5 := (HO5.out.below b6 (Nat.le_refl _)).wide (Nat.le_refl _) b6.size
            have o6 := (HO6.out.below b6 (Nat.le_refl _)).wide (Nat.le_refl _) b6.size
            have hz6 := b6.size
            go_wp2_with fail
            refine (HGS.out A6 z c6 w6 hbw6 o6.rd hl6).mono ?_
            rintro e w7 ⟨rfl, b7⟩
            have hbw7 := hbw6.trans (b7.mono (by omega))
            have hz7 := b7.size
            have P5 := Lib.hid ((o5.below b7 (Nat.le_refl _)).wide (lo' := w.heap.size) (by omega) b7.size)
            have P6 := Lib.hid ((o6.below b7 (Nat.le_refl _)).wide (Nat.le_refl _) b7.size)
            clear o5 o6
            have HS := Lib.hid (best3_step HF6.out (by rw [← HKX.out]; exact HF5.out))
            by_cases hyz : f y < f z
            · have HYZ := Lib.hid hyz
              go_wp2_with fail
              exact ⟨⟨j + 1, .inr ⟨by omega, rfl, A5, c5, y, rfl, by have h := HS.out; rw [if_pos HYZ.out] at h; exact h, P5.out, hl5⟩, by omega, by rw [HKX.out]; go_num, hbw7, by omega⟩, by rw [HKX.out]; simp [intOf]; omega⟩
            · have HYZ := Lib.hid hyz
              go_wp2_with fail
              exact ⟨⟨j + 1, .inr ⟨by omega, rfl, A6, c6, z, rfl, by have h := HS.out; rw [if_neg (by have := HYZ.out; omega)] at h; exact h, P6.out, hl6⟩, by omega, by rw [HKX.out]; go_num, hbw7, by omega⟩, by rw [HKX.out]; simp [intOf]; omega⟩
        · have hje : j = l.length + 1 - a := by omega
          rcases hst with ⟨hj0, _, _⟩ | ⟨_, rfl, hbest⟩
          · exact absurd hj0 (by omega)
          · have HB : Hid (BestOf f (preL l.length a (d + 1) q) w.heap.size u7 wr) := by show BestOf _ _ _ _ _; rw [HL.out, ← hje]; exact hbest
            clear hje hbest
            go_wp2_with fail
            go_ret
            obtain ⟨A6, c6, z, e6, hf6, ho6, hl6⟩ := HB.out
            exact ⟨_, rfl, ⟨A6, c6, z, e6, hf6, ho6.wide h1 (Nat.le_refl _), hl6⟩, hbw⟩

theorem bestS_pre (l : List Int) (m : Nat) : firstMin (greatS l) (preL l.length 0 m []) = bestS l m := by unfold bestS preL; simp
set_option maxHeartbeats 400000 in
theorem bs_spec (A : Option Addr) (l : List Int) (c : Nat) (cr : Int) (w : World) (ha : Rd w A l) (hl : l.length ≤ 1048576) :
    Calls Try.prog 21 #[.slice A l.length c, .int .i64 cr] w (Ans (fun s => .tuple #[s, .bool (bsOk l cr)]) (bsVal l cr).length (bsVal l cr) 3 w) := by
  have HNIL : Hid (bsOk l cr = false → Ans (fun s => .tuple #[s, .bool (bsOk l cr)]) (bsVal l cr).length (bsVal l cr) 3 w (.returned (.tuple #[.slice (some ⟨w.heap.size, 0, none⟩) 0 0, .bool false])) (w.alloc (.cells #[] 3))) := fun h => by
    rw [bsVal_no h, h]
    exact ⟨_, 0, rfl, Own.nil_, (Below.refl _ _).alloc (Nat.le_refl _) _⟩
  cases hv : workV l
  · have HQ := Lib.hid (ws_is (c := c) ha hl hv)
    have HO := Lib.hid (p := bsOk l cr = false) (by unfold bsOk; rw [hv]; rfl)
    clear hv
    go_enter Try.func21, Try.ntmps21
    go_wp2_with fail
    refine HQ.out.mono ?_
    rintro e w' ⟨rfl, rfl⟩
    go_wp2_with fail
    go_ret2
    exact HNIL.out HO.out
  · have HQ := Lib.hid (ws_is (c := c) ha hl hv)
    by_cases hcr : 1 ≤ cr ∧ cr ≤ 4
    · obtain ⟨m, rfl⟩ : ∃ m : Nat, cr = (m : Int) + 1 := ⟨(cr - 1).toNat, by omega⟩
      have hm : m ≤ 3 := by omega
      have HC := Lib.hid (l18Best_any l hv A c m hm m [] w.heap.size 0 w.heap.size (w.heap.size + 1) (w.alloc (.cells #[] 3)) (by simp) (by simp) (ha.alloc _) Own.nil_ (by simp) (by simp))
      have HY := Lib.hid (fun b (hb : bestS l m = some b) => bsVal_yes hv hm hb)
      clear hv
      go_enter Try.func21, Try.ntmps21
      go_wp2_with fail
      refine HQ.out.mono ?_
      rintro e w' ⟨rfl, rfl⟩
      go_wp2_with fail
      refine (l1In_t _ _ _ _ hcr).mono ?_
      rintro e w' ⟨rfl, rfl⟩
      go_wp2_with fail
      refine HC.out.mono ?_
      rintro e w5 ⟨b5, rfl, ⟨A5, c5, y, rfl, hf5, ho5, hl5⟩, b5⟩
      have HF := Lib.hid hf5
      have HO := Lib.hid ho5
      have HB := Lib.hid (((Below.refl w.heap.size w).alloc (Nat.le_refl _) (.cells #[] 3)).trans (b5.mono (by simp)))
      clear hf5 ho5
      go_wp2_with fail
      go_ret2
      have h := HF.out
      rw [show lastN [] = 0 from rfl, bestS_pre] at h
      obtain ⟨e1, e2⟩ := HY.out y h
      rw [e1, e2]
      exact ⟨A5, c5, rfl, HO.out, HB.out⟩
    · have HO := Lib.hid (p := bsOk l cr = false) (by unfold bsOk; rw [decide_eq_false hcr, Bool.and_false])
      clear hv
      go_enter Try.func21, Try.ntmps21
      go_wp2_with fail
      refine HQ.out.mono ?_
      rintro e w' ⟨rfl, rfl⟩
      go_wp2_with fail
      refine (l1In_f _ _ _ _ hcr).mono ?_
      rintro e w' ⟨rfl, rfl⟩
      go_wp2_with fail
      go_ret2
      exact HNIL.out HO.out
end Go.Proofs.Ytoopmikcehmpdaa
