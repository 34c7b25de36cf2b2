/- permutations: the iterator's walk: extend by induction on the indices still to come. -/
import Derived.RangeFuncNested
import Derived.RangeFuncBound
import Derived.RangeFuncCalls
import Derived.RangeFuncLeaves
import Derived.Shelf.Abstract
import Derived.Shelf.RegionOpen
import Derived.WalkKit
import Derived.OwnWalkIn
import Derived.TacticsInMore
import Derived.LoopNIn
import Derived.LoopIn
import Derived.Maps.AppendAt
import Derived.Test.YtjbocijckoaekaaCome
import Derived.Test.YtjbocijckoaekaaPerm
namespace Go.Proofs.Ytjbocijckoaekaa
open Go.RowKit Go.Shelf
attribute [local go_sem] Oper.semAt_some
set_option linter.unusedVariables false
set_option linter.unusedSimpArgs false

/-- The orders that begin with some indices and one of the first k behind them. -/
def extTo (n f : Nat) (o : List Int) (k : Nat) : List (List Int) := ((marks n 0).take k).flatMap fun j => if o.contains j then [] else ext n f (o ++ [j])
theorem extTo_0 (n f : Nat) (o : List Int) : extTo n f o 0 = [] := rfl
theorem extTo_all (n f : Nat) (o : List Int) : extTo n f o n = ext n (f + 1) o := by
  unfold extTo
  rw [List.take_of_length_le (by rw [marks_length]; exact Nat.le_refl _)]
  rfl
theorem extTo_next {n f : Nat} {o : List Int} {k : Nat} (hk : k < n) : extTo n f o (k + 1) = extTo n f o k ++ (if o.contains (k : Int) then [] else ext n f (o ++ [(k : Int)])) := by
  unfold extTo
  have h := marks_at n 0 k hk
  rw [Int.zero_add] at h
  rw [take_next h, List.flatMap_append]
  simp
theorem row_less {w : World} {base g c : Nat} {t : TypeId} {o : List Int} {x : Int} (h : w.ownsRow base t 1 (.slice (some ⟨g, 0, none⟩) (o.length + 1) c) (o.length + 1) (o.map (Value.int .i64) ++ [.int .i64 x])) :
    w.ownsRow base t 1 (.slice (some ⟨g, 0, none⟩) o.length c) o.length (o.map (Value.int .i64)) := by
  refine ⟨by simp, .inr ?_⟩
  rcases h.2 with ⟨h0, _⟩ | ⟨g', cap, cur, hv, hb, hh, h1, h2, h3, h4⟩
  · cases h0
  · cases hv
    refine ⟨g, c, cur, rfl, hb, hh, by omega, h2, h3, ?_⟩
    have := congrArg (List.take o.length) h4
    rw [List.take_take, List.take_left' (by simp)] at this
    rw [← this]
    congr 1
    omega

/-- extend, with what it has captured. -/
def fE (O T Y E : Nat) : Value := .func (.func 66) #[] #[.pointer (some ⟨O, 0, none⟩), .pointer (some ⟨T, 0, none⟩), .pointer (some ⟨Y, 0, none⟩), .pointer (some ⟨E, 0, none⟩)]
/-- The iterator's blocks, the order so far being o. -/
structure St (n l O T Y E G LB : Nat) (cl : Array Value) (o : List Int) (W : World) : Prop where
  bo : Blk W O 29 #[.slice (some ⟨G, 0, none⟩) o.length n]
  bt : Blk W T 29 #[.slice (some ⟨LB, 0, none⟩) n n]
  by_ : Blk W Y 72 #[.func (.yield l) #[] #[]]
  be : Blk W E 42 #[fE O T Y E]
  bl : Blk W LB 3 cl
  row : W.ownsRow G 3 1 (.slice (some ⟨G, 0, none⟩) o.length n) o.length (o.map (Value.int .i64))
/-- The blocks are apart; those that extend writes lie in n0 .. n1. -/
structure Apart (n0 n1 O T Y E G LB : Nat) : Prop where
  o0 : n0 ≤ O
  o1 : O < n1
  g0 : n0 ≤ G
  g1 : G < n1
  og : O ≠ G
  t : T ≠ O ∧ T ≠ G
  y : Y ≠ O ∧ Y ≠ G
  e : E ≠ O ∧ E ≠ G
  l : LB ≠ O ∧ LB ≠ G

theorem Blk.grown {w w' : World} {b g : Nat} {t : TypeId} {cs : Array Value} (h : Blk w b t cs) (hg : w.grownBy w' (some g)) (hne : b ≠ g) : Blk w' b t cs := (hg.block b h.lt (fun e => hne (Option.some.inj e))).trans h
theorem chg_grown {w w' : World} {g n0 n1 : Nat} (hg : w.grownBy w' (some g)) (h0 : n0 ≤ g) (h1 : g < n1) : Chg n0 n1 w w' :=
  ⟨hg.os, hg.tape, hg.output, hg.size, fun k hk hr => hg.block k hk (fun e => by have := Option.some.inj e; omega)⟩
section
variable {n n0 n1 l O T Y E G LB : Nat} {cl : Array Value} {o : List Int} {W w3 : World} {x : Int}
theorem St.push (hs : St n l O T Y E G LB cl o W) (hd : Apart n0 n1 O T Y E G LB) {obj : Obj} (hown : w3.ownsRow G 3 1 (.slice (some ⟨G, 0, none⟩) (o.length + 1) n) (o.length + 1) (o.map (Value.int .i64) ++ [.int .i64 x])) (hg : (W.alloc obj).grownBy w3 (some G)) :
    St n l O T Y E G LB cl (o ++ [x]) (w3.setCell ⟨O, 0, none⟩ (.slice (some ⟨G, 0, none⟩) (o.length + 1) n)) ∧ Chg n0 n1 W (w3.setCell ⟨O, 0, none⟩ (.slice (some ⟨G, 0, none⟩) (o.length + 1) n)) := by
  have hl : (o ++ [x]).length = o.length + 1 := by simp
  refine ⟨⟨?_, ((hs.bt.alloc obj).grown hg hd.t.2).far hd.t.1 _, ((hs.by_.alloc obj).grown hg hd.y.2).far hd.y.1 _, ((hs.be.alloc obj).grown hg hd.e.2).far hd.e.1 _, ((hs.bl.alloc obj).grown hg hd.l.2).far hd.l.1 _, ?_⟩, ?_⟩
  · rw [hl]
    exact ((hs.bo.alloc obj).grown hg hd.og).set_ 0 _
  · rw [hl, List.map_append]
    exact ownsRow_setCell_other hown (by simp [Value.ownBlock]; exact fun e => hd.og e.symm) _
  · exact (((Chg.refl n0 n1 W).alloc obj).trans (chg_grown hg hd.g0 hd.g1)).setCell (p := ⟨O, 0, none⟩) hd.o0 hd.o1 _
theorem St.pop (hs : St n l O T Y E G LB cl (o ++ [x]) W) (hd : Apart n0 n1 O T Y E G LB) :
    St n l O T Y E G LB cl o (W.setCell ⟨O, 0, none⟩ (.slice (some ⟨G, 0, none⟩) o.length n)) ∧ Chg n0 n1 W (W.setCell ⟨O, 0, none⟩ (.slice (some ⟨G, 0, none⟩) o.length n)) := by
  have hl : (o ++ [x]).length = o.length + 1 := by simp
  refine ⟨⟨hs.bo.set_ 0 _, hs.bt.far hd.t.1 _, hs.by_.far hd.y.1 _, hs.be.far hd.e.1 _, hs.bl.far hd.l.1 _, ?_⟩, (Chg.refl n0 n1 W).setCell (p := ⟨O, 0, none⟩) hd.o0 hd.o1 _⟩
  have h := hs.row
  rw [hl, List.map_append] at h
  exact ownsRow_setCell_other (row_less h) (by simp [Value.ownBlock]; exact fun e => hd.og e.symm) _
end
section
variable {σ : Type} {step : σ → List Int → σ} {J : σ → World → Prop} {n n0 n1 l O T Y E G LB : Nat} {cl : Array Value}
theorem ext_in (hcl : cl.toList = (marks n 0).map (Value.int .i64)) (hn : n ≤ 1000) (hd : Apart n0 n1 O T Y E G LB)
    (hJ : ∀ s A B, J s A → Chg n0 n1 A B → J s B)
    (hY : ∀ m s o W, good n o → o.length = n → J s W → St n l O T Y E G LB cl o W → YieldAt Fence.wide m Try.prog l #[.slice (some ⟨G, 0, none⟩) n n] W fun e W' => e = .returned (.bool true) ∧ J (step s o) W' ∧ St n l O T Y E G LB cl o W') :
    ∀ (f m : Nat) (o : List Int) (s : σ) (W : World), good n o → o.length + f = n → J s W → St n l O T Y E G LB cl o W →
      CallsIn Fence.wide m Try.prog 66 #[.pointer (some ⟨O, 0, none⟩), .pointer (some ⟨T, 0, none⟩), .pointer (some ⟨Y, 0, none⟩), .pointer (some ⟨E, 0, none⟩)] W fun e W' =>
        e = .returned (.bool true) ∧ J ((ext n f o).foldl step s) W' ∧ St n l O T Y E G LB cl o W' := by
  intro f
  induction f with
  | zero =>
    intro m o s W hg hf hj hs
    have hlen : o.length = n := by omega
    have c0 := hs.bo.cell 0
    have c1 := hs.bt.cell 0
    have c2 := hs.by_.cell 0
    simp only [List.getElem?_toArray, List.getElem?_cons_zero] at c0 c1 c2
    rw [hlen] at c0
    obtain ⟨fn, tmps, assign, body, hy, hR⟩ := hY (m - 1) s o W hg hlen hj hs
    clear hs hj hY hJ hcl hlen hf
    refine callsIn_of_wp Try.func66 rfl trivial ?_ rfl
    simp only [Try.ntmps66, List.size_toArray, List.length_cons, List.length_nil, Nat.reduceAdd, Nat.reduceSub, Array.replicate_succ, Array.replicate_zero, List.push_toArray, List.append_toArray, List.nil_append, List.cons_append]
    gi_wp2_with ((try refine ⟨(fun h => by cases h), ?_⟩); refine hR.mono ?_; clear hR; rintro e W2 ⟨rfl, hj2, hs2⟩)
    go_ret
    exact ⟨rfl, hj2, hs2⟩
  | succ f ih =>
    intro m o s W hg hf hj hs
    obtain ⟨i0, hi, hz0, hz1, hz2⟩ := info_parts info_int
    have c0 := hs.bo.cell 0
    have c1 := hs.bt.cell 0
    simp only [List.getElem?_toArray, List.getElem?_cons_zero] at c0 c1
    have t0 : ((o.length : Int) == (n : Int)) = false := beq_eq_false_iff_ne.2 (by omega)
    have HG := Lib.hid hg
    have HY := Lib.hid hY
    have HJ := Lib.hid hJ
    have HC := Lib.hid hcl
    have ho : o.length < n := by omega
    have HF := Lib.hid hf
    have HIH := Lib.hid ih
    have HJ0 := Lib.hid hj
    have HS0 := Lib.hid hs
    clear hg hY hJ hcl ih hj hs hf
    refine callsIn_of_wp Try.func66 rfl trivial ?_ rfl
    simp only [Try.ntmps66, List.size_toArray, List.length_cons, List.length_nil, Nat.reduceAdd, Nat.reduceSub, Array.replicate_succ, Array.replicate_zero, List.push_toArray, List.append_toArray, List.nil_append, List.cons_append]
    gi_wp2
    gi_loopw [18] (fun i wr => ∃ k : Nat, k ≤ n ∧ i = .int .i64 k ∧ Hid (J ((extTo n f o k).foldl step s) wr) ∧ Hid (St n l O T Y E G LB cl o wr)) (fun i _ => n - (intOf i).toNat)
    case atStart => exact ⟨0, by omega, rfl, HJ0.out, HS0.out⟩
    case round =>
      obtain ⟨k, hk, rfl, Hj, Hs⟩ := hrel
      by_cases hlt : k < n
      · have hx : cl[k]? = some (.int .i64 (k : Int)) := by
          have := cells_at HC.out (marks_at n 0 k hlt)
          rwa [Int.zero_add] at this
        have cx := (Hs.out.bl.cell k).trans hx
        have d0 := Hs.out.bo.cell 0
        have d3 := Hs.out.be.cell 0
        simp only [List.getElem?_toArray, List.getElem?_cons_zero] at d0 d3
        have q0 : (0 : Int) ≤ (k : Int) := by omega
        have q1 : (k : Int) < (n : Int) := by omega
        have HR := Lib.hid (Own.of_row Hs.out.row (Nat.le_refl wr.heap.size)).rd
        have HNX := Lib.hid (extTo_next (f := f) (o := o) hlt)
        clear hx
        cases hb : hasB o o.length (k : Int) with
        | true =>
          have HQ := Lib.hid (bool_is (contains_any _ o o.length n (k : Int) wr HR.out (Nat.le_refl _) (by omega)) hb)
          have HE : Hid (extTo n f o (k + 1) = extTo n f o k) := by
            show _ = _
            rw [HNX.out, if_pos (by have := has_mem.1 hb; rw [List.take_length] at this; exact List.contains_iff_mem.2 this), List.append_nil]
          clear hb
          gi_wp2_with (first | (refine ⟨trivial, (fun h => by cases h), ?_⟩; gi_at_call 54; refine (callsIn_wide.2 HQ.out).mono ?_; rintro e w1 ⟨rfl, rfl⟩))
          go_roundw
          case rel => exact ⟨k + 1, by omega, by go_num, by show J _ _; rw [HE.out]; exact Hj.out, Hs.out⟩
          case measure => simp [intOf]; omega
        | false =>
          have hko : (k : Int) ∉ o := by
            intro e
            have h1 : hasB o o.length (k : Int) = true := has_mem.2 (by rw [List.take_length]; exact e)
            rw [hb] at h1
            cases h1
          have HQ := Lib.hid (bool_is (contains_any _ o o.length n (k : Int) wr HR.out (Nat.le_refl _) (by omega)) hb)
          have HE : Hid (extTo n f o (k + 1) = extTo n f o k ++ ext n f (o ++ [(k : Int)])) := by
            show _ = _
            rw [HNX.out, if_neg (fun e => hko (List.contains_iff_mem.1 e))]
          have HGM := Lib.hid (good_more HG.out hko q0 q1)
          have HSW := Hs
          clear hb hko
          have fo := hd.og
          have bo := Hs.out.bo
          have be := Hs.out.be
          gi_wp2_with (first
            | (refine ⟨trivial, (fun h => by cases h), ?_⟩; gi_at_call 54; refine (callsIn_wide.2 HQ.out).mono ?_; rintro e w1 ⟨rfl, rfl⟩)
            | (gi_at_builtin; refine wpListIn_append_fits _ rfl _ _ 29 rfl G 3 i0 1 Try.underlying29 hi hz1 G o.length n (o.map (Value.int .i64)) rfl (Hs.out.row.alloc _) ⟨wr.heap.size, 0, none⟩ 1 1 [.int .i64 (k : Int)] rfl rfl (cell_one_new _ _ _) (fun x hx => by simp at hx; subst hx; rfl) (by omega) ?_; intro w3 hown3 hg3
               have HP := Lib.hid (Hs.out.push hd hown3 hg3)
               have bo3 := ((Hs.out.bo.alloc _).grown hg3 hd.og)
               have co3 := bo3.cell 0
               have fo3 := bo3.frozen 0
               simp only [List.getElem?_toArray, List.getElem?_cons_zero] at co3
               have ce3 := HP.out.1.be.cell 0
               simp only [List.getElem?_toArray, List.getElem?_cons_zero, fE] at ce3
               clear hown3 hg3 bo3 bo be)
            | (refine ⟨trivial, (fun h => by cases h), ?_⟩; gi_at_call 66; refine (HIH.out _ (o ++ [(k : Int)]) _ _ HGM.out (by have := HF.out; simp; omega) (HJ.out _ _ _ Hj.out HP.out.2) HP.out.1).mono ?_; rintro e w5 ⟨rfl, hj5, hs5⟩
               have HP5 := Lib.hid (hs5.pop hd)
               have HJ5 := Lib.hid hj5
               have co5 := hs5.bo.cell 0
               have fo5 := hs5.bo.frozen 0
               simp only [List.getElem?_toArray, List.getElem?_cons_zero, List.length_append, List.length_cons, List.length_nil, Nat.zero_add, Int.natCast_add] at co5
               clear hs5 hj5))
          exact ⟨⟨k + 1, by omega, by go_num, (by show J _ _; rw [HE.out, List.foldl_append]; exact HJ.out _ _ _ HJ5.out HP5.out.2), HP5.out.1⟩, by simp [intOf]; omega⟩
      · gi_wp2
        go_ret
        obtain rfl : k = n := by omega
        refine ⟨rfl, ?_, Hs.out⟩
        have := Hj.out
        rwa [extTo_all] at this
set_option maxHeartbeats 800000 in
/-- The iterator's function, called: the order, its array, extend's box. -/
theorem perms_in {JN : Nat → σ → World → Prop} (W : World) (T LB : Nat) (hcl : cl.toList = (marks n 0).map (Value.int .i64)) (hn : n ≤ 1000) (hT : Blk W T 29 #[.slice (some ⟨LB, 0, none⟩) n n]) (hLB : Blk W LB 3 cl) (m : Nat) (s : σ)
    (hj : ∀ n1 W', W.heap.size < n1 → Below W.heap.size W W' → JN n1 s W')
    (hJ : ∀ n1 s A B, JN n1 s A → Chg W.heap.size n1 A B → JN n1 s B)
    (hY : ∀ O m s o W', W.heap.size + 2 ≤ O → good n o → o.length = n → JN (O + 2) s W' → St n l O T W.heap.size (O + 1) (W.heap.size + 1) LB cl o W' → YieldAt Fence.wide m Try.prog l #[.slice (some ⟨W.heap.size + 1, 0, none⟩) n n] W' fun e W'' => e = .returned (.bool true) ∧ JN (O + 2) (step s o) W'' ∧ St n l O T W.heap.size (O + 1) (W.heap.size + 1) LB cl o W'') :
    CallsIn Fence.wide m Try.prog 65 #[.func (.yield l) #[] #[], .pointer (some ⟨T, 0, none⟩)] W fun e W' => (∃ v, e = .returned v) ∧ ∃ n1, W.heap.size < n1 ∧ JN n1 ((ext n n []).foldl step s) W' := by
  obtain ⟨i0, hi, hz0, hz1, hz2⟩ := info_parts info_int
  have hTl := hT.lt
  have hLl := hLB.lt
  have c1 := hT.cell 0
  simp only [List.getElem?_toArray, List.getElem?_cons_zero] at c1
  have HX : Hid (∀ O W', W.heap.size + 2 ≤ O → JN (O + 2) s W' → St n l O T W.heap.size (O + 1) (W.heap.size + 1) LB cl [] W' →
      CallsIn Fence.wide (m - 1) Try.prog 66 #[.pointer (some ⟨O, 0, none⟩), .pointer (some ⟨T, 0, none⟩), .pointer (some ⟨W.heap.size, 0, none⟩), .pointer (some ⟨O + 1, 0, none⟩)] W' fun e W'' =>
        e = .returned (.bool true) ∧ JN (O + 2) ((ext n n []).foldl step s) W'' ∧ St n l O T W.heap.size (O + 1) (W.heap.size + 1) LB cl [] W'') := fun O W' hO hj' hs' =>
    ext_in (n0 := W.heap.size) (n1 := O + 2) hcl hn ⟨by omega, by omega, by omega, by omega, by omega, ⟨by omega, by omega⟩, ⟨by omega, by omega⟩, ⟨by omega, by omega⟩, ⟨by omega, by omega⟩⟩ (hJ (O + 2)) (fun m s o W' hg hl hj hs => hY O m s o W' hO hg hl hj hs) n (m - 1) [] s W' (good_nil n) (by simp) hj' hs'
  have HJ0 := Lib.hid hj
  have HT := Lib.hid hT
  have HL := Lib.hid hLB
  clear hcl hJ hY hj hT hLB
  refine callsIn_of_wp Try.func65 rfl trivial ?_ rfl
  simp only [Try.ntmps65, List.size_toArray, List.length_cons, List.length_nil, Nat.reduceAdd, Nat.reduceSub, Array.replicate_succ, Array.replicate_zero, List.push_toArray, List.append_toArray, List.nil_append, List.cons_append]
  gi_wp2_with (first
    | (gi_at_make; refine wpListIn_make_own _ rfl _ _ 29 rfl (W.heap.size + 1) 3 i0 (.int .i64 0) 1 Try.underlying29 hi hz0 hz1 .i64 .i64 _ n rfl rfl rfl (by rw [hz2]; omega) (by unfold maxLen; omega) (by simp) ?_; intro w1 hown1 hgrow1
       rw [World.size_alloc] at hown1
       have hs1 := below_grown hgrow1
       have bY := (Blk.new W 72 #[.func (.yield l) #[] #[]]).below hs1 (by simp)
       have bel1 : Below W.heap.size W w1 := ((Below.refl _ _).alloc (Nat.le_refl _) (.cells #[.func (.yield l) #[] #[]] 72)).trans (hs1.mono (by simp))
       have hw1 : W.heap.size + 2 ≤ w1.heap.size := by have := (hown1.lt (W.heap.size + 1) rfl).2; omega
       have bO := Blk.new w1 29 #[.slice (some ⟨W.heap.size + 1, 0, none⟩) 0 n]
       have bE0 := Blk.new (w1.alloc (.cells #[.slice (some ⟨W.heap.size + 1, 0, none⟩) 0 n] 29)) 42 #[.nilFunc]
       have bE := Blk.new (w1.alloc (.cells #[.slice (some ⟨W.heap.size + 1, 0, none⟩) 0 n] 29)) 42 #[fE w1.heap.size T W.heap.size (w1.heap.size + 1)]
       rw [World.size_alloc] at bE0 bE
       have HST : Hid (St n l w1.heap.size T W.heap.size (w1.heap.size + 1) (W.heap.size + 1) LB cl [] ((w1.alloc (.cells #[.slice (some ⟨W.heap.size + 1, 0, none⟩) 0 n] 29)).alloc (.cells #[fE w1.heap.size T W.heap.size (w1.heap.size + 1)] 42))) :=
         ⟨bO.alloc _, ((HT.out.below bel1 hTl).alloc _).alloc _, (bY.alloc _).alloc _, bE, ((HL.out.below bel1 hLl).alloc _).alloc _, (hown1.alloc _).alloc _⟩
       have HBL : Hid (Below W.heap.size W ((w1.alloc (.cells #[.slice (some ⟨W.heap.size + 1, 0, none⟩) 0 n] 29)).alloc (.cells #[fE w1.heap.size T W.heap.size (w1.heap.size + 1)] 42))) := (bel1.alloc bel1.size _).alloc (by simp; omega) _
       have cE := bE0.cell 0
       have zE := bE0.frozen 0
       simp only [List.getElem?_toArray, List.getElem?_cons_zero] at cE
       clear bE0 bE bO bY hs1 bel1 hown1 hgrow1))
  rw [run_store _ _ _ _ _ rfl, cE]
  dsimp only
  rw [zE]
  gi_wp2_with (refine ⟨trivial, (fun h => by cases h), ?_⟩; gi_at_call 66; refine (HX.out _ _ hw1 (HJ0.out _ _ (by omega) HBL.out) HST.out).mono ?_; rintro e w5 ⟨rfl, hj5, hs5⟩
               have HJ5 := Lib.hid hj5
               clear hs5 hj5)
  go_end0
  exact ⟨⟨_, rfl⟩, _, by omega, HJ5.out⟩
end
end Go.Proofs.Ytjbocijckoaekaa
