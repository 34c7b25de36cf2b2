/- What is drawn for the law on ships one after the other; the plain law; lists of ships that are the same. -/
import Derived.Test.YtiejkcjbjjnacaaCallsLaw
import Derived.Deep.AppendLies
namespace Go.Proofs.Ytiejkcjbjjnacaa
open Go.RowKit
set_option linter.unusedVariables false
set_option linter.unusedSimpArgs false

theorem allFrom_spec : ∀ (a b c : List Int) (out L : List CallV), b.length = a.length → c.length = a.length → allFrom out a b c = some L → callsV out = true → callsV L = true ∧ ∃ M, L = out ++ M ∧ M.length = a.length ∧
    (∀ (k : Nat) (x y z : Int) (q : CallV), a[k]? = some x → b[k]? = some y → c[k]? = some z → M[k]? = some q → q.long = x ∧ q.hours = y ∧ z ≤ q.start) ∧ ∀ n, allFrom out (a.take n) (b.take n) (c.take n) = some (out ++ M.take n) := by
  intro a
  induction a with
  | nil =>
    intro b c out L hb hc h hv
    have : L = out := by simp [allFrom] at h; exact h.symm
    subst this
    refine ⟨hv, [], by simp, rfl, fun k x y z q hx => by simp at hx, fun n => by simp [allFrom]⟩
  | cons x a ih =>
    intro b c out L hb hc h hv
    cases b with
    | nil => simp at hb
    | cons y b =>
      cases c with
      | nil => simp at hc
      | cons z c =>
        unfold allFrom at h
        split at h
        · next q hq =>
          obtain ⟨h1, h2, h3, h4, h5, _⟩ := nextC_some hq
          obtain ⟨_, hn6, _⟩ := askedB_spec h1
          have hv2 : callsV (out ++ [q]) = true := (free_more hv hn6).trans h2
          obtain ⟨k1, M, rfl, k3, k4, k5⟩ := ih b c (out ++ [q]) L (by simpa using hb) (by simpa using hc) h hv2
          refine ⟨k1, q :: M, by simp, by simp [k3], fun k x' y' z' q' e1 e2 e3 e4 => ?_, fun n => ?_⟩
          · cases k with
            | zero => simp at e1 e2 e3 e4; subst e1 e2 e3 e4; exact ⟨h4, h3, h5⟩
            | succ k => simp at e1 e2 e3 e4; exact k4 k x' y' z' q' e1 e2 e3 e4
          · cases n with
            | zero => simp [allFrom]
            | succ n =>
              simp only [List.take_succ_cons]
              unfold allFrom
              rw [hq]
              simp only
              rw [k5 n]
              simp
        · cases h
theorem allC_spec {a b c : List Int} {L : List CallV} (h : allC a b c = some L) : callsV L = true ∧ L.length = a.length ∧ a.length = b.length ∧ a.length = c.length ∧
    (∀ (k : Nat) (x y z : Int) (q : CallV), a[k]? = some x → b[k]? = some y → c[k]? = some z → L[k]? = some q → q.long = x ∧ q.hours = y ∧ z ≤ q.start) ∧ ∀ n, allC (a.take n) (b.take n) (c.take n) = some (L.take n) := by
  unfold allC at h
  split at h
  · next hl =>
    obtain ⟨h1, M, h2, h3, h4, h5⟩ := allFrom_spec a b c [] L hl.1.symm hl.2.symm h rfl
    simp only [List.nil_append] at h2 h5
    subst h2
    refine ⟨h1, h3, hl.1, hl.2, h4, fun n => ?_⟩
    unfold allC
    rw [if_pos (by simp only [List.length_take]; omega)]
    exact h5 n
  · cases h
theorem results_tmp3 {fn : Func} {tmps : Array Value} {t u v : Nat} (h : fn.results = #[.tmp t, .tmp u, .tmp v]) (w : World) (P : Program) :
    (results fn tmps).run P w = .ok (.tuple #[tmps.getD t undef, tmps.getD u undef, tmps.getD v undef]) w := by simp [results, h]
theorem info_intA : (Try.prog.info? 3).map (fun i => (i.zero, i.size, i.bytes)) = some (some (.int .i64 0), 1, 8) := by kernel_rfl
theorem row_keepA {w w' : World} {base g1 n c : Nat} {t : TypeId} {xs : List Value} (h : w.ownsRow base t 1 (.slice (some ⟨g1, 0, none⟩) n c) n xs) (he : w'.heap[g1]? = w.heap[g1]?) : w'.ownsRow base t 1 (.slice (some ⟨g1, 0, none⟩) n c) n xs := by
  refine ⟨h.1, ?_⟩
  rcases h.2 with hn | ⟨g, cap, cur, e, hb, hg, rest⟩
  · exact .inl hn
  · injection e with e1 e2 e3
    injection e1 with e1
    injection e1 with e1
    subst e1 e3
    exact .inr ⟨_, _, cur, rfl, hb, he.trans hg, rest⟩
theorem row_ltA {w : World} {base g1 n c : Nat} {t : TypeId} {xs : List Value} (h : w.ownsRow base t 1 (.slice (some ⟨g1, 0, none⟩) n c) n xs) : g1 < w.heap.size ∧ base ≤ g1 ∧ n ≤ c := by
  rcases h.2 with ⟨e, _⟩ | ⟨g, cap, cur, e, hb, hg, hn, _⟩
  · cases e
  · injection e with e1 e2 e3
    injection e1 with e1
    injection e1 with e1
    subst e1 e3
    exact ⟨(Array.getElem?_eq_some_iff.1 hg).1, hb, hn⟩
/-- A number put behind a row; the two other rows stand. -/
theorem three_app {w w' : World} {base j g1 g2 c2 n2 g3 c3 n3 g' c' : Nat} {x : Int} {t : TypeId} {l1 : List Int} {x2 x3 : List Value}
    (h2 : w.ownsRow base t 1 (.slice (some ⟨g2, 0, none⟩) n2 c2) n2 x2) (h3 : w.ownsRow base t 1 (.slice (some ⟨g3, 0, none⟩) n3 c3) n3 x3) (d12 : g1 ≠ g2) (d13 : g1 ≠ g3)
    (hown : w'.ownsRow base t 1 (.slice (some ⟨g', 0, none⟩) (j + 1) c') (j + 1) (l1.map (Value.int .i64) ++ [.int .i64 x])) (hg : (w.alloc (.cells #[.int .i64 x] t)).grownBy w' (some g1)) (hat : g1 = g' ∨ g' = w.heap.size + 1) :
    w'.ownsRow base t 1 (.slice (some ⟨g', 0, none⟩) (j + 1) c') (j + 1) ((l1 ++ [x]).map (Value.int .i64)) ∧ w'.ownsRow base t 1 (.slice (some ⟨g2, 0, none⟩) n2 c2) n2 x2 ∧ w'.ownsRow base t 1 (.slice (some ⟨g3, 0, none⟩) n3 c3) n3 x3 ∧ g' ≠ g2 ∧ g' ≠ g3 := by
  have k2 := (row_ltA h2).1
  have k3 := (row_ltA h3).1
  refine ⟨by simpa using hown, row_keepA h2 ((hg.block g2 (by simp; omega) (by simp; omega)).trans (Below.heap_alloc w _ g2 k2)), row_keepA h3 ((hg.block g3 (by simp; omega) (by simp; omega)).trans (Below.heap_alloc w _ g3 k3)), ?_, ?_⟩
  · rcases hat with e | e <;> omega
  · rcases hat with e | e <;> omega
section
variable {A : Option Addr} {l : List Int} {c : Nat}
def GotThree (w : World) (e : Ending) (w' : World) : Prop := ∃ (g1 : Nat) (l1 : List Int) (c1 g2 : Nat) (l2 : List Int) (c2 g3 : Nat) (l3 : List Int) (c3 : Nat),
  e = .returned (.tuple #[.slice (some ⟨g1, 0, none⟩) l1.length c1, .slice (some ⟨g2, 0, none⟩) l2.length c2, .slice (some ⟨g3, 0, none⟩) l3.length c3]) ∧ l1.length ≤ 8 ∧ l2.length ≤ 8 ∧ l3.length ≤ 8 ∧ l1.length ≤ c1 ∧ l2.length ≤ c2 ∧ l3.length ≤ c3 ∧
  Rd w' (some ⟨g1, 0, none⟩) l1 ∧ Rd w' (some ⟨g2, 0, none⟩) l2 ∧ Rd w' (some ⟨g3, 0, none⟩) l3 ∧ Below w.heap.size w w'
theorem got_three {w w' : World} {base k1 k2 k3 g1 c1 g2 c2 g3 c3 : Nat} {l1 l2 l3 : List Int} {t : TypeId} (h1 : w'.ownsRow base t 1 (.slice (some ⟨g1, 0, none⟩) k1 c1) k1 (l1.map (Value.int .i64))) (h2 : w'.ownsRow base t 1 (.slice (some ⟨g2, 0, none⟩) k2 c2) k2 (l2.map (Value.int .i64))) (h3 : w'.ownsRow base t 1 (.slice (some ⟨g3, 0, none⟩) k3 c3) k3 (l3.map (Value.int .i64)))
    (e1 : l1.length = k1) (e2 : l2.length = k2) (e3 : l3.length = k3) (b1 : k1 ≤ 8) (b2 : k2 ≤ 8) (b3 : k3 ≤ 8) (hb : Below w.heap.size w w') : GotThree w (.returned (.tuple #[.slice (some ⟨g1, 0, none⟩) k1 c1, .slice (some ⟨g2, 0, none⟩) k2 c2, .slice (some ⟨g3, 0, none⟩) k3 c3])) w' := by
  subst e1 e2 e3
  exact ⟨g1, l1, c1, g2, l2, c2, g3, l3, c3, rfl, b1, b2, b3, (row_ltA h1).2.2, (row_ltA h2).2.2, (row_ltA h3).2.2, (Own.of_row (A := some ⟨g1, 0, none⟩) h1 (Nat.le_refl _)).rd, (Own.of_row (A := some ⟨g2, 0, none⟩) h2 (Nat.le_refl _)).rd, (Own.of_row (A := some ⟨g3, 0, none⟩) h3 (Nat.le_refl _)).rd, hb⟩
set_option maxHeartbeats 6400000 in
theorem drawBA (w : World) (ha : RdU w A l) (hc : l.length ≤ c) (hl : l.length ≤ 1048576) : Calls Try.prog 38 #[.slice A l.length c] w (GotThree w) := by
  obtain ⟨i0, hi, hz0, hz1, hz2⟩ := info_parts info_intA
  have m0 : 0 ≤ maxLen := by unfold maxLen; omega
  go_enter Try.func38, Try.ntmps38
  go_wp2_with fail
  refine (open_any w ha hc hl).mono ?_
  rintro e w1 ⟨g, rfl, r1, b1⟩
  have hg1 := r1.lt
  have a1 : (w1.alloc (.cells #[] 3)).ownsRow w1.heap.size 3 1 (.slice (some ⟨w1.heap.size, 0, none⟩) 0 0) 0 (([] : List Int).map (Value.int .i64)) := World.ownsRow_lit w1 #[] 0 (Nat.le_refl _) m0 rfl
  have a2 : ((w1.alloc (.cells #[] 3)).alloc (.cells #[] 3)).ownsRow w1.heap.size 3 1 (.slice (some ⟨w1.heap.size + 1, 0, none⟩) 0 0) 0 (([] : List Int).map (Value.int .i64)) := lit_row (w1.alloc (.cells #[] 3)) #[] 0 (by simp) m0 rfl _ (by simp)
  have a3 : (((w1.alloc (.cells #[] 3)).alloc (.cells #[] 3)).alloc (.cells #[] 3)).ownsRow w1.heap.size 3 1 (.slice (some ⟨w1.heap.size + 2, 0, none⟩) 0 0) 0 (([] : List Int).map (Value.int .i64)) := lit_row ((w1.alloc (.cells #[] 3)).alloc (.cells #[] 3)) #[] 0 (by simp; omega) m0 rfl _ (by simp)
  have b1' := (a1.alloc (.cells #[] 3)).alloc (.cells #[] 3)
  have b2' := a2.alloc (.cells #[] 3)
  have d0 := (((Drawn.refl r1).alloc (.cells #[] 3)).alloc (.cells #[] 3)).alloc (.cells #[] 3)
  clear a1 a2
  go_wp2_with fail
  refine (pick_any _ g _ 7 _ d0.rdr (by omega) (by omega) (by omega)).mono ?_
  rintro e w2 ⟨x1, x10, x19, rfl, d2, _⟩
  go_wp2_with fail
  refine (pick_any _ g _ 20 _ d2.rdr (by omega) (by omega) (by omega)).mono ?_
  rintro e w3 ⟨x2, x20, x29, rfl, d3, _⟩
  have dd := d2.trans d3
  have a1 := row_chg b1' dd.chg (by omega)
  have a2 := row_chg b2' dd.chg (by omega)
  have a3 := row_chg a3 dd.chg (by omega)
  have dd := d0.trans dd
  clear d0 d2 d3 b1' b2'
  go_wp2_with fail
  go_loopw [6, 7, 8, 9] (fun v1 v2 v3 i wr => ∃ (k j : Nat) (l1 l2 l3 : List Int) (g1 c1 g2 c2 g3 c3 : Nat), i = .int .i64 k ∧ j + k ≤ 7 ∧ Hid (l1.length = j) ∧ Hid (l2.length = j) ∧ Hid (l3.length = j) ∧ v1 = .slice (some ⟨g1, 0, none⟩) j c1 ∧ v2 = .slice (some ⟨g2, 0, none⟩) j c2 ∧ v3 = .slice (some ⟨g3, 0, none⟩) j c3 ∧
    wr.ownsRow w1.heap.size 3 1 (.slice (some ⟨g1, 0, none⟩) j c1) j (l1.map (Value.int .i64)) ∧ wr.ownsRow w1.heap.size 3 1 (.slice (some ⟨g2, 0, none⟩) j c2) j (l2.map (Value.int .i64)) ∧ wr.ownsRow w1.heap.size 3 1 (.slice (some ⟨g3, 0, none⟩) j c3) j (l3.map (Value.int .i64)) ∧
    g1 ≠ g2 ∧ g1 ≠ g3 ∧ g2 ≠ g3 ∧ Drawn w.heap.size g (2 + 3 * j) w1 wr) (fun _ _ _ i _ => (intOf i).toNat)
  case atStart =>
    obtain ⟨k, hk⟩ := Int.eq_ofNat_of_zero_le (by omega : 0 ≤ x1 + x2 / 19)
    exact ⟨k, 0, [], [], [], w1.heap.size, 0, w1.heap.size + 1, 0, w1.heap.size + 2, 0, by rw [hk], by omega, rfl, rfl, rfl, rfl, rfl, rfl, a1, a2, a3, by omega, by omega, by omega, dd⟩
  case round =>
    clear a1 a2 a3 dd
    obtain ⟨k, j, l1, l2, l3, g1, c1, g2, c2, g3, c3, rfl, hjk, HL1, HL2, HL3, rfl, rfl, rfl, o1, o2, o3, d12, d13, d23, hd⟩ := hrel
    have hds := hd.chg.size
    by_cases hlt : 0 < k
    · obtain ⟨k', hk'⟩ : ∃ k' : Nat, k = k' + 1 := ⟨k - 1, by omega⟩
      have HK := Lib.hid hk'
      clear hk'
      go_wp2_with fail
      refine (pick_any _ g _ 14 _ hd.rdr (by omega) (by omega) (by omega)).mono ?_
      rintro e w4 ⟨y1, y10, y19, rfl, d4, _⟩
      have o1 := row_chg o1 d4.chg (by omega)
      have o2 := row_chg o2 d4.chg (by omega)
      have o3 := row_chg o3 d4.chg (by omega)
      have hd4 := hd.trans d4
      have hd4s := hd4.chg.size
      have hone : ∀ y : Int, ∀ u ∈ [Value.int .i64 y], u.oneCell' = true := fun y u hu => by rw [List.mem_singleton.1 hu]; rfl
      have HONE := Lib.hid hone
      have hb1 := row_ltA o1
      clear hone d4 hd
      go_wp2_with (at_builtin; refine wpList_append_lies _ rfl _ _ 40 rfl w1.heap.size 3 i0 (.int .i64 0) 1 8 Try.underlying40 hi hz0 hz1 hz2 rfl (by decide) _ _ _ rfl (o1.alloc _) ⟨w4.heap.size, 0, none⟩ 1 1 [.int .i64 (1 + y1)] rfl rfl (cell_one_new _ _ _) (HONE.out _) (by omega) ?c1 ?c2 ?c3 (w4.heap.size + 1) (by simp) ?_)
      case c1 => unfold maxLen; omega
      case c2 => omega
      case c3 => simp; omega
      intro h1 e1 w5 hown5 hgrow5 hat5 hlt5
      simp only [Value.ownBlock, Option.some.injEq] at hat5
      have hd5 := (hd4.alloc (.cells #[.int .i64 (1 + y1)] 3)).grown hgrow5 hg1 (fun k e => by simp [Value.ownBlock] at e; omega)
      obtain ⟨o1, o2, o3, d12, d13⟩ := three_app o2 o3 d12 d13 hown5 hgrow5 hat5
      have hd5s := hd5.chg.size
      clear hown5 hgrow5 hat5 hd4 hb1
      go_wp2_with fail
      refine (pick_any _ g _ 9 _ hd5.rdr (by omega) (by omega) (by omega)).mono ?_
      rintro e w6 ⟨y2, y20, y29, rfl, d6, _⟩
      have o1 := row_chg o1 d6.chg (by omega)
      have o2 := row_chg o2 d6.chg (by omega)
      have o3 := row_chg o3 d6.chg (by omega)
      have hd6 := hd5.trans d6
      have hd6s := hd6.chg.size
      have hb2 := row_ltA o2
      clear d6 hd5
      go_wp2_with (at_builtin; refine wpList_append_lies _ rfl _ _ 40 rfl w1.heap.size 3 i0 (.int .i64 0) 1 8 Try.underlying40 hi hz0 hz1 hz2 rfl (by decide) _ _ _ rfl (o2.alloc _) ⟨w6.heap.size, 0, none⟩ 1 1 [.int .i64 (1 + y2)] rfl rfl (cell_one_new _ _ _) (HONE.out _) (by omega) ?c4 ?c5 ?c6 (w6.heap.size + 1) (by simp) ?_)
      case c4 => unfold maxLen; omega
      case c5 => omega
      case c6 => simp; omega
      intro h2 e2 w7 hown7 hgrow7 hat7 hlt7
      simp only [Value.ownBlock, Option.some.injEq] at hat7
      have hd7 := (hd6.alloc (.cells #[.int .i64 (1 + y2)] 3)).grown hgrow7 hg1 (fun k e => by simp [Value.ownBlock] at e; omega)
      obtain ⟨o2, o1, o3, d21, d23⟩ := three_app o1 o3 d12.symm d23 hown7 hgrow7 hat7
      have hd7s := hd7.chg.size
      clear hown7 hgrow7 hat7 hd6 hb2
      go_wp2_with fail
      refine (pick_any _ g _ 12 _ hd7.rdr (by omega) (by omega) (by omega)).mono ?_
      rintro e w8 ⟨y3, y30, y39, rfl, d8, _⟩
      have o1 := row_chg o1 d8.chg (by omega)
      have o2 := row_chg o2 d8.chg (by omega)
      have o3 := row_chg o3 d8.chg (by omega)
      have hd8 := hd7.trans d8
      have hd8s := hd8.chg.size
      have hb3 := row_ltA o3
      clear d8 hd7
      go_wp2_with (at_builtin; refine wpList_append_lies _ rfl _ _ 40 rfl w1.heap.size 3 i0 (.int .i64 0) 1 8 Try.underlying40 hi hz0 hz1 hz2 rfl (by decide) _ _ _ rfl (o3.alloc _) ⟨w8.heap.size, 0, none⟩ 1 1 [.int .i64 y3] rfl rfl (cell_one_new _ _ _) (HONE.out _) (by omega) ?c7 ?c8 ?c9 (w8.heap.size + 1) (by simp) ?_)
      case c7 => unfold maxLen; omega
      case c8 => omega
      case c9 => simp; omega
      intro h3 e3 w9 hown9 hgrow9 hat9 hlt9
      simp only [Value.ownBlock, Option.some.injEq] at hat9
      have hd9 := ((hd8.alloc (.cells #[.int .i64 y3] 3)).grown hgrow9 hg1 (fun k e => by simp [Value.ownBlock] at e; omega)).more (show 2 + 3 * j + 1 + 1 + 1 ≤ 2 + 3 * (j + 1) by omega)
      obtain ⟨o3, o1, o2, d31, d32⟩ := three_app o1 o2 d13.symm d23.symm hown9 hgrow9 hat9
      have HM1 : Hid ((l1 ++ [1 + y1]).length = j + 1) := by show _ = _; rw [List.length_append, HL1.out]; rfl
      have HM2 : Hid ((l2 ++ [1 + y2]).length = j + 1) := by show _ = _; rw [List.length_append, HL2.out]; rfl
      have HM3 : Hid ((l3 ++ [y3]).length = j + 1) := by show _ = _; rw [List.length_append, HL3.out]; rfl
      clear hown9 hgrow9 hat9 hd8 hb3
      go_wp2_with fail
      exact ⟨⟨k', j + 1, _, _, _, h1, e1, h2, e2, h3, e3, by have := HK.out; rw [this]; go_num, by have := HK.out; omega, HM1.out, HM2.out, HM3.out, rfl, rfl, rfl, o1, o2, o3, d21.symm, d31.symm, d32.symm, hd9⟩, by have := HK.out; simp [intOf]; omega⟩
    · go_wp2_with fail
      refine (odd_any _ g _ 12 _ hd.rdr (by omega) (by omega) (by omega)).mono ?_
      rintro e w4 ⟨b, rfl, d4, _⟩
      have o1 := row_chg o1 d4.chg (by omega)
      have o2 := row_chg o2 d4.chg (by omega)
      have o3 := row_chg o3 d4.chg (by omega)
      have hd4 := hd.trans d4
      have hd4s := hd4.chg.size
      clear d4 hd
      cases b with
      | false =>
        have HF := Lib.hid (got_three o1 o2 o3 HL1.out HL2.out HL3.out (by omega) (by omega) (by omega) (b1.trans (hd4.below b1.size)))
        go_wp2_with fail
        refine bodyPost_ret (results_tmp3 rfl _ _) rfl ?_
        exact HF.out
      | true =>
        have hone : ∀ y : Int, ∀ u ∈ [Value.int .i64 y], u.oneCell' = true := fun y u hu => by rw [List.mem_singleton.1 hu]; rfl
        have HONE := Lib.hid hone
        have hb1 := row_ltA o1
        clear hone
        go_wp2_with (at_builtin; refine wpList_append_lies _ rfl _ _ 40 rfl w1.heap.size 3 i0 (.int .i64 0) 1 8 Try.underlying40 hi hz0 hz1 hz2 rfl (by decide) _ _ _ rfl (o1.alloc _) ⟨w4.heap.size, 0, none⟩ 1 1 [.int .i64 4] rfl rfl (cell_one_new _ _ _) (HONE.out _) (by omega) ?e1 ?e2 ?e3 (w4.heap.size + 1) (by simp) ?_)
        case e1 => unfold maxLen; omega
        case e2 => omega
        case e3 => simp; omega
        intro h1 e1 w5 hown5 hgrow5 hat5 hlt5
        simp only [Value.ownBlock, Option.some.injEq] at hat5
        have hd5 := (hd4.alloc (.cells #[.int .i64 4] 3)).grown hgrow5 hg1 (fun k e => by simp [Value.ownBlock] at e; omega)
        obtain ⟨o1, o2, o3, d12, d13⟩ := three_app o2 o3 d12 d13 hown5 hgrow5 hat5
        have HF := Lib.hid (got_three o1 o2 o3 (by rw [List.length_append, HL1.out]; rfl) HL2.out HL3.out (by omega) (by omega) (by omega) (b1.trans (hd5.below b1.size)))
        clear hown5 hgrow5 hat5 o1 o2 o3
        go_wp2_with fail
        refine bodyPost_ret (results_tmp3 rfl _ _) rfl ?_
        exact HF.out
end
end Go.Proofs.Ytiejkcjbjjnacaa
