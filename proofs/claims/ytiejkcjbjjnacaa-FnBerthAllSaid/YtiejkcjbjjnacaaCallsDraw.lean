/- Lists of ships at a quay that are drawn. -/
import Derived.Test.YtiejkcjbjjnacaaBerthLaws
import Derived.Test.YtiejkcjbjjnacaaBerth3
import Derived.Test.YtiejkcjbjjnacaaTCall
import Derived.Deep.RegionHeld3
import Derived.Deep.RegionLaw
import Derived.BigRegion
import Derived.IntWalk
import Derived.Laws.OwnMore
namespace Go.Proofs.Ytiejkcjbjjnacaa
open Go.RowKit
set_option linter.unusedVariables false
set_option linter.unusedSimpArgs false

/-- append onto a row of the call's own, at a guarded step of a region that draws its order. -/
theorem step_append_ownG {P : Program} {w : World} {o : Oper} {a : Act} {K : Act → World → Prop} {Q : Exit → Act → World → Prop} {E : Prop} {wanted : Bool} (hwd : wanted = true) (s x : Operand) (t : TypeId)
    (ho : o.op = .call { callee := .builtin .append, args := #[s, x], argTypes := #[t, t] })
    (base : Nat) (e : TypeId) (i : TypeInfo) (z : Value) (size bytes : Nat) (ht : P.underlying t = some (.slice e)) (hi : P.info? e = some i) (hz : i.zero = some z)
    (hsize : i.size = size) (hby : i.bytes = bytes) (hzs : z.cells.size = size) (hsz : 0 < size)
    (v : Value) (n : Nat) (xs : List Value) (hs : a.eval s = v) (hown : w.ownsRow base e size v n xs)
    (ad : Addr) (m c : Nat) (news : List Value) (hx : a.eval x = .slice (some ad) m c) (hl : news.length = m * size) (hnews : ∀ j u, news[j]? = some u → w.cell? (ad.add j) = some u) (h1 : ∀ u ∈ news, u.oneCell' = true)
    (h63 : n + m ≤ maxLen) (hbytes : (n + m) * bytes ≤ 140737488355328) (hbase : base ≤ w.heap.size)
    (h : ∀ v' w', w'.ownsRow base e size v' (n + m) (xs ++ news) → w.grownBy w' v.ownBlock → K (a.put o.dst v') w') :
    if wanted = true then Oper.wp P o a w K Q else E := by
  rw [if_pos hwd]
  exact wp_append_own w s x t ho base e i z size bytes ht hi hz hsize hby hzs hsz v n xs hs hown ad m c news hx hl hnews h1 h63 hbytes hbase fun v' w' h2 h3 _ => h v' w' h2 h3
theorem flat_appC (l m : List CallV) : flatCall (l ++ m) = flatCall l ++ flatCall m := by
  induction l with
  | nil => rfl
  | cons x l ih => simp [flatCall, ih]
theorem news4C {w : World} {a b c d : Value} {H : Nat} (h : Blk w H 25 #[a, b, c, d]) : ∀ (j : Nat) (u : Value), [a, b, c, d][j]? = some u → w.cell? ((⟨H, 0, none⟩ : Addr).add j) = some u := by
  intro j u hu
  rw [addr_add, Nat.zero_add, h.cell, List.getElem?_toArray]
  exact hu
theorem one4 (a b c d : Int) : ∀ u ∈ [Value.int .i64 a, Value.int .i64 b, Value.int .i64 c, Value.int .i64 d], u.oneCell' = true := by
  intro u hu
  simp only [List.mem_cons, List.not_mem_nil, or_false] at hu
  rcases hu with rfl | rfl | rfl | rfl <;> rfl
theorem row_atC {w : World} {base n size : Nat} {t : TypeId} {v : Value} {xs : List Value} (h : w.ownsRow base t size v n xs) (hn : 0 < n) : ∃ g c, v = .slice (some ⟨g, 0, none⟩) n c ∧ n ≤ c := by
  rcases h.2 with ⟨rfl, h0⟩ | ⟨g, cap, cur, rfl, _, _, h1, _⟩
  · omega
  · exact ⟨g, cap, rfl, h1⟩
theorem row_belowC {w w' : World} {base n B : Nat} {v : Value} {xs : List Value} (h : w.ownsRow base 25 4 v n xs) (hb : Below B w w') (hB : w.heap.size ≤ B) : w'.ownsRow base 25 4 v n xs := by
  refine ⟨h.1, ?_⟩
  rcases h.2 with hn | ⟨g, cap, cur, rfl, hbg, hgg, rest⟩
  · exact .inl hn
  · exact .inr ⟨g, cap, cur, rfl, hbg, (hb.block g (by have := (Array.getElem?_eq_some_iff.1 hgg).1; omega)).trans hgg, rest⟩
theorem bel_al {B : Nat} {w0 w : World} (h : Below B w0 w) (hB : B ≤ w0.heap.size) (o : Obj) : Below B w0 (w.alloc o) := h.alloc (by have := h.size; omega) o
theorem bel_gr {B : Nat} {w0 w w' : World} {row : Option Nat} (h : Below B w0 w) (hB : B ≤ w0.heap.size) (hg : w.grownBy w' row) (hr : ∀ k, row = some k → B ≤ k) : Below B w0 w' := h.grown hg (by have := h.size; omega) hr
theorem grown_blk {W W' : World} {g : Nat} {t : TypeId} {cs : Array Value} {row : Option Nat} (hk : Blk W g t cs) (hg : W.grownBy W' row) (hr : some g ≠ row) : Blk W' g t cs := (hg.block g hk.lt hr).trans hk
theorem row_app4 {w : World} {base : Nat} {v : Value} {l : List CallV} {x : CallV} (h : w.ownsRow base 25 4 v (l.length + 1) ((flatCall l).map (Value.int .i64) ++ [.int .i64 x.start, .int .i64 x.hours, .int .i64 x.at_, .int .i64 x.long])) :
    w.ownsRow base 25 4 v (l.length + 1) ((flatCall (l ++ [x])).map (Value.int .i64)) := by
  rw [flat_appC, List.map_append]
  exact h
theorem blk_new2 (w : World) (o : Obj) (t : TypeId) (cs : Array Value) : Blk ((w.alloc o).alloc (.cells cs t)) (w.heap.size + 1) t cs := by simpa using Blk.new (w.alloc o) t cs
theorem row_dr {w : World} {base size n : Nat} {t : TypeId} {v : Value} {xs : List Value} (h : w.ownsRow base t size v n xs) : w.drew.ownsRow base t size v n xs := h
theorem bel_dr {B : Nat} {w0 w : World} (h : Below B w0 w) : Below B w0 w.drew := below_drewN h 1
theorem blk_dr {w : World} {g : Nat} {t : TypeId} {cs : Array Value} (h : Blk w g t cs) : Blk w.drew g t cs := h
theorem bsz {B : Nat} {w0 w : World} (h : Below B w0 w) (hB : B ≤ w0.heap.size) : B ≤ w.heap.size := by have := h.size; omega
theorem lit_rowB {B : Nat} {w0 w : World} {t : TypeId} (h : Below B w0 w) (hB : B ≤ w0.heap.size) : (w.alloc (.cells #[] t)).ownsRow B t 4 (.slice (some ⟨w.heap.size, 0, none⟩) 0 0) 0 [] := lit_row w #[] 0 (bsz h hB) (by unfold maxLen; omega) rfl _ rfl
theorem lit_rowC {B : Nat} {w0 w : World} {t : TypeId} {o : Obj} (h : Below B w0 w) (hB : B ≤ w0.heap.size) : ((w.alloc o).alloc (.cells #[] t)).ownsRow B t 4 (.slice (some ⟨w.heap.size + 1, 0, none⟩) 0 0) 0 [] := lit_row (w.alloc o) #[] 0 (by have := bsz h hB; simp; omega) (by unfold maxLen; omega) rfl _ (by simp)
theorem csvC {W w0 : World} {B base g c : Nat} {l : List CallV} {x : CallV} {r : Bool} (hW : Below B w0 W) (hB : B ≤ w0.heap.size) (h : W.ownsRow base 25 4 (.slice (some ⟨g, 0, none⟩) (l.length + 1) c) (l.length + 1) ((flatCall l).map (Value.int .i64) ++ [.int .i64 x.start, .int .i64 x.hours, .int .i64 x.at_, .int .i64 x.long])) (hl : l.length ≤ 100) (hr : callsV (l ++ [x]) = r) :
    Calls Try.prog 19 #[.slice (some ⟨g, 0, none⟩) (l.length + 1) c] W fun e w' => e = .returned (.bool r) ∧ Below B w0 w' := by
  have h1 := row_app4 h
  have h2 := csv_spec (some ⟨g, 0, none⟩) (l ++ [x]) c W (RdCall.of_rd (Own.of_row (A := some ⟨g, 0, none⟩) h1 (Nat.le_refl _)).rd) (by simp; omega)
  rw [List.length_append] at h2
  exact h2.mono fun _ _ ⟨he, hb⟩ => ⟨he.trans (ret_bool hr), hW.trans (hb.mono (by have := hW.size; omega))⟩
theorem csvI {W w0 : World} {B base g c : Nat} {l : List CallV} {x : CallV} {r : Bool} (hW : Below B w0 W) (hB : B ≤ w0.heap.size) (h : W.ownsRow base 25 4 (.slice (some ⟨g, 0, none⟩) (l.length + 1) c) (l.length + 1) ((flatCall l).map (Value.int .i64) ++ [.int .i64 x.start, .int .i64 x.hours, .int .i64 x.at_, .int .i64 x.long])) (hl : l.length ≤ 100) (hc : l.length + 1 ≤ c) (hr : callsV (l ++ [x]) = r) :
    Calls Try.prog 21 #[.slice (some ⟨g, 0, none⟩) (l.length + 1) c] W fun e w' => e = .returned (.bool r) ∧ Below B w0 w' := by
  have h1 := row_app4 h
  have h2 := csv_impl (some ⟨g, 0, none⟩) (l ++ [x]) c W (RdCall.of_rd (Own.of_row (A := some ⟨g, 0, none⟩) h1 (Nat.le_refl _)).rd) (by simp; omega) (by simpa using hc)
  rw [List.length_append] at h2
  exact h2.mono fun _ _ ⟨he, hb⟩ => ⟨he.trans (ret_bool hr), hW.trans (hb.mono (by have := hW.size; omega))⟩
/-- Some ships, in new memory. -/
def DrewCalls (lo g p : Nat) (w : World) (e : Ending) (w' : World) : Prop :=
  ∃ (g' : Nat) (l : List CallV) (c : Nat), e = .returned (.slice (some ⟨g', 0, none⟩) l.length c) ∧ l.length ≤ 6 ∧ l.length ≤ c ∧ (∀ x ∈ l, nearV x) ∧ Own 25 w' w.heap.size w'.heap.size (some ⟨g', 0, none⟩) (flatCall l) ∧ Drawn lo g (p + 80) w w'
theorem drew_calls {lo g p q g' c : Nat} {w w' : World} {l : List CallV} (h : w'.ownsRow w.heap.size 25 4 (.slice (some ⟨g', 0, none⟩) l.length c) l.length ((flatCall l).map (Value.int .i64))) (hc : l.length ≤ c) (hl : l.length ≤ 6) (hx : ∀ x ∈ l, nearV x) (hd : Drawn lo g q w w') (hq : q ≤ p + 80) :
    DrewCalls lo g p w (.returned (.slice (some ⟨g', 0, none⟩) l.length c)) w' := ⟨g', l, c, rfl, hl, hc, hx, Own.of_row h (Nat.le_refl _), hd.more hq⟩
theorem near_app {l : List CallV} {x : CallV} (h : ∀ y ∈ l, nearV y) (hx : nearV x) : ∀ y ∈ l ++ [x], nearV y := by
  intro y hy
  rcases List.mem_append.1 hy with h1 | h1
  · exact h y h1
  · rw [List.mem_singleton.1 h1]; exact hx

set_option maxHeartbeats 6400000 in
theorem calls_any (lo g p : Nat) (n : Int) (w : World) (h : Rdr w lo g p) (hp : p ≤ 900000) (hn : 1 ≤ n) (hn2 : n ≤ 1000) :
    Calls Try.prog 51 #[.pointer (some ⟨g, 0, none⟩), .int .i64 n] w (DrewCalls lo g p w) := by
  obtain ⟨i0, hi, hz0, hz1, hz2⟩ := info_parts info_Call
  have hg := h.lt
  have m0 : 0 ≤ maxLen := by unfold maxLen; omega
  go_enter Try.func51, Try.ntmps51
  go_wp2_with fail
  refine (pick_any lo g p 6 _ (h.alloc _) (by omega) (by omega) (by omega)).mono ?_
  rintro e w1 ⟨x, x0, xn, rfl, hd1, hs1⟩
  go_wp2_with fail
  go_loopw [5, 6] (fun v i wr => ∃ (k : Nat) (l : List CallV) (g1 c1 : Nat), i = .int .i64 k ∧ l.length + k ≤ 5 ∧ v = .slice (some ⟨g1, 0, none⟩) l.length c1 ∧ l.length ≤ c1 ∧ wr.ownsRow w.heap.size 25 4 (.slice (some ⟨g1, 0, none⟩) l.length c1) l.length ((flatCall l).map (Value.int .i64)) ∧ Hid (∀ y ∈ l, nearV y) ∧ Drawn lo g (p + 1 + 8 * (5 - k)) w wr) (fun _ i _ => (intOf i).toNat)
  case atStart =>
    obtain ⟨k, rfl⟩ := Int.eq_ofNat_of_zero_le x0
    refine ⟨k, [], w.heap.size, 0, rfl, by simp; omega, rfl, Nat.le_refl _, ?_, by intro y hy; simp at hy, ?_⟩
    · exact row_chg (World.ownsRow_lit w #[] 0 (Nat.le_refl _) m0 rfl) hd1.chg (by omega)
    · exact (((Drawn.refl h).alloc _).trans hd1).more (by omega)
  case round =>
    obtain ⟨k, l, g1, c1, rfl, hk, rfl, hlc, hown, Hl, hd⟩ := hrel
    by_cases hlt : 0 < k
    · obtain ⟨k', hk'⟩ : ∃ k' : Nat, k = k' + 1 := ⟨k - 1, by omega⟩
      have HK := Lib.hid hk'
      clear hk'
      go_wp2_with fail
      refine (call_any lo g _ 0 _ hd.rdr (by omega) (by omega) (by omega)).mono ?_
      rintro e w2 ⟨y, hy, rfl, hd2⟩
      have HY : Hid (nearV y) := hy
      have hdd := (hd.trans hd2).alloc (.cells #[.int .i64 y.start, .int .i64 y.hours, .int .i64 y.at_, .int .i64 y.long] 25)
      have row0 := (row_chg hown hd2.chg (by omega)).alloc (.cells #[.int .i64 y.start, .int .i64 y.hours, .int .i64 y.at_, .int .i64 y.long] 25)
      have kC0 := Blk.new w2 25 #[.int .i64 y.start, .int .i64 y.hours, .int .i64 y.at_, .int .i64 y.long]
      obtain ⟨W0, HW0⟩ : ∃ W0, Hid (w2.alloc (.cells #[.int .i64 y.start, .int .i64 y.hours, .int .i64 y.at_, .int .i64 y.long] 25) = W0) := ⟨_, rfl⟩
      obtain ⟨C, HC⟩ : ∃ C, Hid (w2.heap.size = C) := ⟨_, rfl⟩
      rw [HW0.out] at hdd row0 kC0
      rw [HC.out] at kC0
      have hCl := kC0.lt
      obtain ⟨r, HV⟩ : ∃ r, Hid (callsV (l ++ [y]) = r) := ⟨_, rfl⟩
      clear hy hown hd hd2
      go_wp2_with fail
      rw [HW0.out, HC.out]
      obtain ⟨B, HB⟩ : ∃ B, Hid (W0.heap.size = B) := ⟨_, rfl⟩
      rw [HB.out] at hCl
      have hBs : B ≤ W0.heap.size := by have := HB.out; omega
      have HRW := Lib.hid (fun W (hW : Below B W0 W) => row_belowC row0 hW (by have := HB.out; omega))
      have HRD := Lib.hid (fun W (hW : Below B W0 W) => (Own.of_row (A := some ⟨g1, 0, none⟩) (HRW.out W hW) (Nat.le_refl _)).rd)
      have HCK : Hid (∀ W, Below B W0 W → W.cell? ⟨C, 0, none⟩ = some (.int .i64 y.start) ∧ W.cell? ⟨C, 1, none⟩ = some (.int .i64 y.hours) ∧ W.cell? ⟨C, 2, none⟩ = some (.int .i64 y.at_) ∧ W.cell? ⟨C, 3, none⟩ = some (.int .i64 y.long) ∧ Below B W0 W) := fun W hW => by
        have k2 := kC0.below hW hCl
        have e0 := k2.cell 0
        have e1 := k2.cell 1
        have e2 := k2.cell 2
        have e3 := k2.cell 3
        simp only [List.getElem?_toArray, List.getElem?_cons_zero, List.getElem?_cons_succ] at e0 e1 e2 e3
        exact ⟨e0, e1, e2, e3, hW⟩
      have HFL : Hid (((flatCall l).map (Value.int .i64)).length = l.length * 4) := by show _ = _; rw [List.length_map, flatCall_length]
      have m1 : 0 + l.length ≤ maxLen := by unfold maxLen; omega
      have m2 : (0 + l.length) * 32 ≤ 140737488355328 := by omega
      have m3 : l.length + 1 ≤ maxLen := by unfold maxLen; omega
      have m4 : (l.length + 1) * 32 ≤ 140737488355328 := by omega
      have B0 := Below.refl B W0
      obtain ⟨s0, s1, s2, s3, _⟩ := HCK.out W0 B0
      clear kC0 row0
      go_region_held3 (fun W => W.cell? ⟨C, 0, none⟩ = some (.int .i64 y.start) ∧ W.cell? ⟨C, 1, none⟩ = some (.int .i64 y.hours) ∧ W.cell? ⟨C, 2, none⟩ = some (.int .i64 y.at_) ∧ W.cell? ⟨C, 3, none⟩ = some (.int .i64 y.long) ∧ Below B W0 W)
        (first | (refine HCK.out _ ?_; (repeat (first | assumption | refine bel_dr ?_ | refine bel_al ?_ hBs _)); done) | go_keep)
        (first | ((try go_split_ands); refine step_append_own (o := ⟨some 19, _, _, _, _, _⟩) (by rfl) (.tmp 17) (.tmp 18) 33 (by rfl) B 25 i0 (.agg #[.int .i64 0, .int .i64 0, .int .i64 0, .int .i64 0]) 4 32 Try.underlying33 hi hz0 hz1 hz2 rfl (by decide) _ 0 [] (by rfl) (by first | exact row_dr (lit_row _ #[] 0 hBs m0 rfl _ rfl) | exact row_dr ((lit_row _ #[] 0 hBs m0 rfl _ rfl).alloc _) | exact row_dr (lit_row _ #[] 0 (by simp; omega) m0 rfl _ (by simp))) ⟨g1, 0, none⟩ l.length c1 ((flatCall l).map (Value.int .i64)) (by rfl) HFL.out ((HRD.out _ (by assumption)).news (fun _ _ => rfl)) (ints_oneCell .i64 _) m1 m2 (by simp; omega) ?_; intro v3 w3 hown3 hgrow3; have bl3 := bel_gr (by assumption : Below B W0 _) hBs hgrow3 (fun k e => by simp [go_sem, Value.ownBlock] at e; omega)) | ((try go_split_ands); refine step_append_own (o := ⟨some 22, _, _, _, _, _⟩) (by rfl) (.tmp 19) (.tmp 21) 33 (by rfl) B 25 i0 (.agg #[.int .i64 0, .int .i64 0, .int .i64 0, .int .i64 0]) 4 32 Try.underlying33 hi hz0 hz1 hz2 rfl (by decide) _ _ _ (by rfl) (by first | exact hown3 | exact row_dr hown3 | exact row_dr (hown3.alloc _) | exact hown3.alloc _) ⟨_, 0, none⟩ 1 1 [.int .i64 y.start, .int .i64 y.hours, .int .i64 y.at_, .int .i64 y.long] (by rfl) rfl (by first | exact news4C (blk_dr (Blk.new _ _ _)) | exact news4C (grown_blk (blk_dr (Blk.new _ _ _)) hgrow3 (by simp [go_sem, Value.ownBlock]))  | exact news4C (grown_blk (blk_dr ((Blk.new _ _ _).alloc _)) hgrow3 (by simp [go_sem, Value.ownBlock])) | exact news4C (grown_blk (blk_dr (blk_new2 _ _ _ _)) hgrow3 (by simp [go_sem, Value.ownBlock]))) (one4 _ _ _ _) (by simpa using m3) (by simpa using m4) (by first | (have := bl3.size; simp; omega) | (have := bl3.size; omega)) ?_; intro v4 w4 hown4 hgrow4; have bl4 := bel_gr (by assumption : Below B W0 _) hBs hgrow4 (fun k e => (hown3.lt k (by simpa [go_sem] using e)).1); simp only [Nat.zero_add, List.nil_append] at hown4; obtain ⟨g4, c4, rfl, hc4⟩ := row_atC hown4 (by omega)) | ((try go_split_ands); go_at_call 19; refine (csvC (x := y) (by assumption) hBs (by first | exact hown4 | exact row_dr hown4) (by omega) HV.out).mono ?_; rintro e w5 ⟨rfl, b5⟩))
      all_goals
        have row5 := HRW.out _ b5
        have b6 : Below W0.heap.size W0 w5 := by rw [HB.out]; exact b5
        have hd5 := (hdd.below_new b6).more (show p + 1 + 8 * (5 - k) + 8 ≤ p + 1 + 8 * (5 - k') by have := HK.out; omega)
        have hd5s := hd5.chg.size
        try clear s0 s1 s2 s3
        obtain ⟨s0, s1, s2, s3, _⟩ := HCK.out _ b5
        have hbk := row5.lt
        clear hown3 hown4 hgrow3 hgrow4 B0 b6
        cases r with
        | false =>
          go_wp2_with fail
          exact ⟨⟨k', l, g1, c1, by have := HK.out; rw [this]; go_num, by have := HK.out; omega, rfl, hlc, row5, Hl.out, hd5⟩, by have := HK.out; simp [intOf]; omega⟩
        | true =>
          go_wp2_with (at_builtin; refine wpList_append_own _ rfl _ _ 33 rfl w.heap.size 25 i0 (.agg #[.int .i64 0, .int .i64 0, .int .i64 0, .int .i64 0]) 4 32 Try.underlying33 hi hz0 hz1 hz2 rfl (by decide) _ _ _ rfl (row5.alloc _) ⟨w5.heap.size, 0, none⟩ 1 1 [.int .i64 y.start, .int .i64 y.hours, .int .i64 y.at_, .int .i64 y.long] rfl rfl (news4C (Blk.new w5 _ _)) (one4 _ _ _ _) m3 m4 ?c5 ?_)
          case c5 => simp; omega
          intro v6 w6 hown6 hgrow6 _
          have hd6 := (hd5.alloc (.cells #[.int .i64 y.start, .int .i64 y.hours, .int .i64 y.at_, .int .i64 y.long] 25)).grown hgrow6 hg (fun b e => (hbk b e).1)
          have hown7 := row_app4 hown6
          obtain ⟨g6, c6, rfl, hc6⟩ := row_atC hown7 (by omega)
          clear hown6 hgrow6 row5
          go_wp2_with fail
          have HL1 : (l ++ [y]).length = l.length + 1 := by simp
          exact ⟨⟨k', l ++ [y], g6, c6, by have := HK.out; rw [this]; go_num, by have := HK.out; omega, by rw [HL1], by omega, by rw [HL1]; exact hown7, near_app Hl.out HY.out, hd6⟩, by have := HK.out; simp [intOf]; omega⟩
    · have hl5 : l.length ≤ 5 := by omega
      have hdx := hd.more (show p + 1 + 8 * (5 - k) ≤ p + 41 by omega)
      clear hd
      go_wp2_with fail
      refine (odd_any lo g _ n _ hdx.rdr (by omega) (by omega) (by omega)).mono ?_
      rintro e w2 ⟨b, rfl, hd2, Hs2⟩
      have hown2 := row_chg hown hd2.chg (by omega)
      have hdd2 := hdx.trans hd2
      have hdd2s := hdd2.chg.size
      clear hown hdx hd2
      cases b with
      | false =>
        have HF := Lib.hid (drew_calls (p := p) hown2 hlc (by omega) Hl.out hdd2 (by omega))
        go_wp2_with fail
        go_ret
        exact HF.out
      | true =>
        by_cases h0 : 0 < l.length
        · go_wp2_with fail
          refine (pick_any lo g _ 2 _ hdd2.rdr (by omega) (by omega) (by omega)).mono ?_
          rintro e w3 ⟨z, z0, zn, rfl, hd3, Hs3⟩
          have hown3 := row_chg hown2 hd3.chg (by omega)
          have hdd3 := hdd2.trans hd3
          have hdd3s := hdd3.chg.size
          have hbk := hown3.lt
          clear hown2 hdd2 hd3
          rcases (by omega : z = 0 ∨ z = 1) with rfl | rfl
          · have HRD := Lib.hid (RdCall.of_rd (Own.of_row (A := some ⟨g1, 0, none⟩) hown3 (Nat.le_refl _)).rd)
            obtain ⟨bb, off, y, e, hbb, Hy, hy0, hy1, hy2, hy3⟩ := HRD.out.at_ (k := 0) h0
            injection e with e
            injection e with e1 e2 e3
            subst e1 e2
            have HY : Hid (nearV y) := Hl.out y (mem_at Hy.out)
            simp only [Nat.zero_mul, Nat.zero_add] at hy0 hy1 hy2 hy3
            have q0 : (0 : Int) < (l.length : Int) := by omega
            go_wp2_with (at_builtin; refine wpList_append_own _ rfl _ _ 33 rfl w.heap.size 25 i0 (.agg #[.int .i64 0, .int .i64 0, .int .i64 0, .int .i64 0]) 4 32 Try.underlying33 hi hz0 hz1 hz2 rfl (by decide) _ _ _ rfl (hown3.alloc _) ⟨w3.heap.size, 0, none⟩ 1 1 [.int .i64 y.start, .int .i64 y.hours, .int .i64 y.at_, .int .i64 y.long] rfl rfl (news4C (Blk.new w3 _ _)) (one4 _ _ _ _) ?c3 ?c4 ?c5 ?_)
            case c3 => unfold maxLen; omega
            case c4 => omega
            case c5 => simp; omega
            intro v6 w6 hown6 hgrow6 _
            have hd6 := (hdd3.alloc (.cells #[.int .i64 y.start, .int .i64 y.hours, .int .i64 y.at_, .int .i64 y.long] 25)).grown hgrow6 hg (fun b e => (hbk b e).1)
            have hown7 := row_app4 hown6
            obtain ⟨g6, c6, rfl, hc6⟩ := row_atC hown7 (by omega)
            have HL1 : (l ++ [y]).length = l.length + 1 := by simp
            have HF : Hid (DrewCalls lo g p w (.returned (.slice (some ⟨g6, 0, none⟩) (l.length + 1) c6)) w6) := by
              have h := drew_calls (p := p) (l := l ++ [y]) (by rw [HL1]; exact hown7) (by rw [HL1]; exact hc6) (by rw [HL1]; omega) (near_app Hl.out HY.out) hd6 (by omega)
              rw [HL1] at h
              exact h
            clear hown6 hown7 hgrow6 HL1
            go_wp2_with fail
            go_ret
            exact HF.out
          · go_wp2_with fail
            refine (call_any lo g _ 1 _ hdd3.rdr (by omega) (by omega) (by omega)).mono ?_
            rintro e w4 ⟨y, hy, rfl, hd4⟩
            have HY : Hid (nearV y) := hy
            have row4 := row_chg hown3 hd4.chg (by omega)
            have dd4 := hdd3.trans hd4
            have dd4s := dd4.chg.size
            have hbk := row4.lt
            clear hy hd4
            go_wp2_with (at_builtin; refine wpList_append_own _ rfl _ _ 33 rfl w.heap.size 25 i0 (.agg #[.int .i64 0, .int .i64 0, .int .i64 0, .int .i64 0]) 4 32 Try.underlying33 hi hz0 hz1 hz2 rfl (by decide) _ _ _ rfl (row4.alloc _) ⟨w4.heap.size, 0, none⟩ 1 1 [.int .i64 y.start, .int .i64 y.hours, .int .i64 y.at_, .int .i64 y.long] rfl rfl (news4C (Blk.new w4 _ _)) (one4 _ _ _ _) ?c3 ?c4 ?c5 ?_)
            case c3 => unfold maxLen; omega
            case c4 => omega
            case c5 => simp; omega
            intro v6 w6 hown6 hgrow6 _
            have hd6 := (dd4.alloc (.cells #[.int .i64 y.start, .int .i64 y.hours, .int .i64 y.at_, .int .i64 y.long] 25)).grown hgrow6 hg (fun b e => (hbk b e).1)
            have hown7 := row_app4 hown6
            obtain ⟨g6, c6, rfl, hc6⟩ := row_atC hown7 (by omega)
            have HL1 : (l ++ [y]).length = l.length + 1 := by simp
            have HF : Hid (DrewCalls lo g p w (.returned (.slice (some ⟨g6, 0, none⟩) (l.length + 1) c6)) w6) := by
              have h := drew_calls (p := p) (l := l ++ [y]) (by rw [HL1]; exact hown7) (by rw [HL1]; exact hc6) (by rw [HL1]; omega) (near_app Hl.out HY.out) hd6 (by omega)
              rw [HL1] at h
              exact h
            clear hown6 hown7 hgrow6 HL1
            go_wp2_with fail
            go_ret
            exact HF.out
        · have t0 : decide (0 < (l.length : Int)) = false := decide_eq_false (by omega)
          go_wp2_with fail
          refine (call_any lo g _ 1 _ hdd2.rdr (by omega) (by omega) (by omega)).mono ?_
          rintro e w4 ⟨y, hy, rfl, hd4⟩
          have HY : Hid (nearV y) := hy
          have row4 := row_chg hown2 hd4.chg (by omega)
          have dd4 := hdd2.trans hd4
          have dd4s := dd4.chg.size
          have hbk := row4.lt
          clear hy hd4
          go_wp2_with (at_builtin; refine wpList_append_own _ rfl _ _ 33 rfl w.heap.size 25 i0 (.agg #[.int .i64 0, .int .i64 0, .int .i64 0, .int .i64 0]) 4 32 Try.underlying33 hi hz0 hz1 hz2 rfl (by decide) _ _ _ rfl (row4.alloc _) ⟨w4.heap.size, 0, none⟩ 1 1 [.int .i64 y.start, .int .i64 y.hours, .int .i64 y.at_, .int .i64 y.long] rfl rfl (news4C (Blk.new w4 _ _)) (one4 _ _ _ _) ?c3 ?c4 ?c5 ?_)
          case c3 => unfold maxLen; omega
          case c4 => omega
          case c5 => simp; omega
          intro v6 w6 hown6 hgrow6 _
          have hd6 := (dd4.alloc (.cells #[.int .i64 y.start, .int .i64 y.hours, .int .i64 y.at_, .int .i64 y.long] 25)).grown hgrow6 hg (fun b e => (hbk b e).1)
          have hown7 := row_app4 hown6
          obtain ⟨g6, c6, rfl, hc6⟩ := row_atC hown7 (by omega)
          have HL1 : (l ++ [y]).length = l.length + 1 := by simp
          have HF : Hid (DrewCalls lo g p w (.returned (.slice (some ⟨g6, 0, none⟩) (l.length + 1) c6)) w6) := by
            have h := drew_calls (p := p) (l := l ++ [y]) (by rw [HL1]; exact hown7) (by rw [HL1]; exact hc6) (by rw [HL1]; omega) (near_app Hl.out HY.out) hd6 (by omega)
            rw [HL1] at h
            exact h
          clear hown6 hown7 hgrow6 HL1
          go_wp2_with fail
          go_ret
          exact HF.out
end Go.Proofs.Ytiejkcjbjjnacaa
