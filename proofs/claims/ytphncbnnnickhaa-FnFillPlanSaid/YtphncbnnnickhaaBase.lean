/- Words for memory that every walk of this seat uses: slices that read as lists, blocks of the call's own, and their laws. No function of the program is named here. -/
import Derived.WalkKit
import Derived.WalkSpells
import Derived.WalkLawsBesides
import Derived.Deep.QuietTactic
import Derived.BigQuiet
import Derived.Lib.Hide
import Derived.Deep.Draws
namespace Go.Proofs.Ytphncbnnnickhaa
open Go.RowKit

theorem ret_bool {a b : Bool} (h : a = b) : Ending.returned (.bool a) = .returned (.bool b) := by rw [h]
theorem ret_int {a b : Int} (h : a = b) : Ending.returned (.int .i64 a) = .returned (.int .i64 b) := by rw [h]

theorem quiet_left {P : Program} {f : FuncId} {args : Array Value} {w : World} {n : Nat} {v : Value}
    (h : Calls P f args (w.drewN n) fun e w' => e = .returned v ∧ w.drewN n = w') : Calls P f args (w.drewN n) fun e w' => e = .returned v ∧ ∃ m, w' = (w.drewN n).drewN m :=
  h.mono fun _ _ ⟨he, hm⟩ => ⟨he, 0, hm.symm⟩
theorem quiet_add_left {P : Program} {f : FuncId} {args : Array Value} {w : World} {a n : Nat} {v : Value}
    (h : Calls P f args (w.drewN (a + n)) fun e w' => e = .returned v ∧ w.drewN (a + n) = w') : Calls P f args (w.drewN (a + n)) fun e w'' => e = .returned v ∧ ∃ m, w'' = w.drewN (a + m) :=
  h.mono fun _ _ ⟨he, hm⟩ => ⟨he, n, hm.symm⟩
theorem quiet_one {P : Program} {f : FuncId} {args : Array Value} {w : World} {n : Nat} {v : Value}
    (h : Calls P f args (w.drewN n) fun e w' => e = .returned v ∧ w.drewN n = w') : Calls P f args (w.drewN n) fun e w'' => e = .returned v ∧ ∃ m, w'' = w.drewN m :=
  h.mono fun _ _ ⟨he, hm⟩ => ⟨he, n, hm.symm⟩

theorem below_drewN {B : Nat} {a w : World} (h : Below B a w) (n : Nat) : Below B a (w.drewN n) := ⟨h.os, h.tape, h.output, h.size, h.block⟩
theorem below_draws {w : World} (n : Nat) : Below w.heap.size w (w.drewN n) := below_drewN (Below.refl _ _) n

/-- Only blocks from lo up to hi, and new ones, have changed. -/
structure Chg (lo hi : Nat) (w w' : World) : Prop where
  os : w'.os = w.os
  tape : w'.tape = w.tape
  output : w'.output = w.output
  size : w.heap.size ≤ w'.heap.size
  block : ∀ k, k < w.heap.size → (k < lo ∨ hi ≤ k) → w'.heap[k]? = w.heap[k]?

section
variable {w w' w'' : World} {lo hi : Nat}
theorem Chg.refl (lo hi : Nat) (w : World) : Chg lo hi w w := ⟨rfl, rfl, rfl, Nat.le_refl _, fun _ _ _ => rfl⟩
theorem Chg.trans (h : Chg lo hi w w') (k : Chg lo hi w' w'') : Chg lo hi w w'' :=
  ⟨k.os.trans h.os, k.tape.trans h.tape, k.output.trans h.output, Nat.le_trans h.size k.size, fun b hb hr => (k.block b (Nat.lt_of_lt_of_le hb h.size) hr).trans (h.block b hb hr)⟩
theorem Chg.drewN (h : Chg lo hi w w') (n : Nat) : Chg lo hi w (w'.drewN n) := ⟨h.os, h.tape, h.output, h.size, h.block⟩
theorem Chg.setCell (h : Chg lo hi w w') {p : Addr} (h1 : lo ≤ p.block) (h2 : p.block < hi) (u : Value) : Chg lo hi w (w'.setCell p u) :=
  ⟨h.os, h.tape, h.output, by simpa [World.setCell] using h.size, fun k hk hr => (Below.heap_setCell w' p u k (by omega)).trans (h.block k hk hr)⟩
theorem Chg.alloc (h : Chg lo hi w w') (o : Obj) : Chg lo hi w (w'.alloc o) :=
  ⟨h.os, h.tape, h.output, by have := h.size; simp; omega, fun k hk hr => (Below.heap_alloc w' o k (Nat.lt_of_lt_of_le hk h.size)).trans (h.block k hk hr)⟩
theorem Chg.wide {lo' hi' : Nat} (h : Chg lo hi w w') (h1 : lo' ≤ lo) (h2 : hi ≤ hi') : Chg lo' hi' w w' := ⟨h.os, h.tape, h.output, h.size, fun k hk hr => h.block k hk (by omega)⟩
theorem Chg.of_below {B : Nat} (h : Below B w w') (hB : w.heap.size ≤ B) : Chg lo hi w w' := ⟨h.os, h.tape, h.output, h.size, fun k hk _ => h.block k (by omega)⟩
theorem Chg.below {B : Nat} (h : Chg lo hi w w') (hB : B ≤ lo) (hs : B ≤ w.heap.size) : Below B w w' :=
  ⟨h.os, h.tape, h.output, h.size, fun k hk => h.block k (by omega) (.inl (by omega))⟩
end

/-- Block g is just the cells cs, of type t, none frozen. -/
def Blk (w : World) (g : Nat) (t : TypeId) (cs : Array Value) : Prop := w.heap[g]? = some (.cells cs t (0, 0))

section
variable {w w' : World} {g : Nat} {t : TypeId} {cs : Array Value}
theorem Blk.lt (h : Blk w g t cs) : g < w.heap.size := by
  rcases Nat.lt_or_ge g w.heap.size with hlt | hge
  · exact hlt
  · unfold Blk at h; rw [Array.getElem?_eq_none hge] at h; cases h
theorem Blk.cell (h : Blk w g t cs) (i : Nat) : w.cell? ⟨g, i, none⟩ = cs[i]? := cell_of_row w g i cs t (0, 0) h
theorem Blk.frozen (h : Blk w g t cs) (i : Nat) : w.frozen? ⟨g, i, none⟩ = false := by
  unfold Blk at h
  simp [World.frozen?, h]
theorem Blk.new (w : World) (t : TypeId) (cs : Array Value) : Blk (w.alloc (.cells cs t)) w.heap.size t cs := heap_alloc_new w _
theorem Blk.drewN (h : Blk w g t cs) (n : Nat) : Blk (w.drewN n) g t cs := h
theorem Blk.alloc (h : Blk w g t cs) (o : Obj) : Blk (w.alloc o) g t cs := (Below.heap_alloc w o g h.lt).trans h
theorem Blk.set_ (h : Blk w g t cs) (i : Nat) (u : Value) : Blk (w.setCell ⟨g, i, none⟩ u) g t (cs.setIfInBounds i u) := by
  unfold Blk at h ⊢
  simp [World.setCell, Array.getElem?_modify, h]
theorem Blk.far (h : Blk w g t cs) {p : Addr} (hp : g ≠ p.block) (u : Value) : Blk (w.setCell p u) g t cs := (Below.heap_setCell w p u g hp).trans h
theorem Blk.below {B : Nat} (h : Blk w g t cs) (hb : Below B w w') (hg : g < B) : Blk w' g t cs := (hb.block g hg).trans h
theorem Blk.chg {lo hi : Nat} (h : Blk w g t cs) (hb : Chg lo hi w w') (hg : g < lo ∨ hi ≤ g) : Blk w' g t cs := (hb.block g h.lt hg).trans h
end

/-- A slice at A reads as the list l of numbers. -/
def Rd (w : World) (A : Option Addr) (l : List Int) : Prop :=
  ∀ (k : Nat) (x : Int), l[k]? = some x → ∃ b off, A = some ⟨b, off, none⟩ ∧ b < w.heap.size ∧ w.cell? ⟨b, off + k, none⟩ = some (.int .i64 x)

section
variable {w w' : World} {A : Option Addr} {l : List Int}
theorem Rd.nil_ : Rd w A [] := fun k x h => by simp at h
theorem Rd.at_ {k : Nat} (h : Rd w A l) (hk : k < l.length) : ∃ b off x, A = some ⟨b, off, none⟩ ∧ b < w.heap.size ∧ Hid (l[k]? = some x) ∧ w.cell? ⟨b, off + k, none⟩ = some (.int .i64 x) := by
  obtain ⟨b, off, e, hb, hc⟩ := h k l[k] (List.getElem?_eq_getElem hk)
  exact ⟨b, off, l[k], e, hb, List.getElem?_eq_getElem hk, hc⟩
theorem Rd.below (h : Rd w A l) (hb : Below w.heap.size w w') : Rd w' A l := fun k x hx => by
  obtain ⟨b, off, e, hlt, hc⟩ := h k x hx
  exact ⟨b, off, e, Nat.lt_of_lt_of_le hlt hb.size, (hb.cell (p := ⟨b, off + k, none⟩) hlt).trans hc⟩
theorem Rd.drewN (h : Rd w A l) (n : Nat) : Rd (w.drewN n) A l := h
theorem Rd.alloc (h : Rd w A l) (o : Obj) : Rd (w.alloc o) A l := h.below ((Below.refl _ _).alloc (Nat.le_refl _) o)
end

theorem addr_add (b off k : Nat) : (⟨b, off, none⟩ : Addr).add k = ⟨b, off + k, none⟩ := by
  unfold Addr.add
  split
  · next h => rw [h]; rfl
  · rfl
theorem Rd.news {w w' : World} {a : Addr} {l : List Int} (h : Rd w (some a) l) (hk : ∀ p : Addr, p.block < w.heap.size → w'.cell? p = w.cell? p) : ∀ (j : Nat) (u : Value), (l.map (Value.int .i64))[j]? = some u → w'.cell? (a.add j) = some u := by
  intro j u hu
  rw [List.getElem?_map] at hu
  cases hx : l[j]? with
  | none => rw [hx] at hu; cases hu
  | some x =>
    rw [hx] at hu
    injection hu with hu
    subst hu
    obtain ⟨b, off, e, hb, hc⟩ := h j x hx
    injection e with e
    subst e
    rw [addr_add, hk ⟨b, off + j, none⟩ hb]
    exact hc
theorem cell_alloc_old {w : World} (o : Obj) : ∀ p : Addr, p.block < w.heap.size → (w.alloc o).cell? p = w.cell? p := fun p hp => World.cell?_alloc_lt w o p hp
/-- A slice at A reads as the list l of bytes. -/
def RdU (w : World) (A : Option Addr) (l : List Int) : Prop :=
  ∀ (k : Nat) (x : Int), l[k]? = some x → ∃ b off, A = some ⟨b, off, none⟩ ∧ b < w.heap.size ∧ 0 ≤ x ∧ x ≤ 255 ∧ w.cell? ⟨b, off + k, none⟩ = some (.int .u8 x)

section
variable {w w' : World} {A : Option Addr} {l : List Int}
theorem RdU.at_ {k : Nat} (h : RdU w A l) (hk : k < l.length) : ∃ b off x, A = some ⟨b, off, none⟩ ∧ b < w.heap.size ∧ 0 ≤ x ∧ x ≤ 255 ∧ w.cell? ⟨b, off + k, none⟩ = some (.int .u8 x) := by
  obtain ⟨b, off, e, hb, h0, h1, hc⟩ := h k l[k] (List.getElem?_eq_getElem hk)
  exact ⟨b, off, l[k], e, hb, h0, h1, hc⟩
theorem RdU.below (h : RdU w A l) (hb : Below w.heap.size w w') : RdU w' A l := fun k x hx => by
  obtain ⟨b, off, e, hlt, h0, h1, hc⟩ := h k x hx
  exact ⟨b, off, e, Nat.lt_of_lt_of_le hlt hb.size, h0, h1, (hb.cell (p := ⟨b, off + k, none⟩) hlt).trans hc⟩
theorem RdU.drewN (h : RdU w A l) (n : Nat) : RdU (w.drewN n) A l := h
theorem RdU.alloc (h : RdU w A l) (o : Obj) : RdU (w.alloc o) A l := h.below ((Below.refl _ _).alloc (Nat.le_refl _) o)
theorem RdU.chg {lo hi : Nat} (h : RdU w A l) (hc : Chg lo hi w w') (ho : ∀ a, A = some a → a.block < lo ∨ hi ≤ a.block) : RdU w' A l := fun k x hx => by
  obtain ⟨b, off, rfl, hlt, h0, h1, hcc⟩ := h k x hx
  exact ⟨b, off, rfl, Nat.lt_of_lt_of_le hlt hc.size, h0, h1, (World.cell?_of_block (a := ⟨b, off + k, none⟩) (hc.block b hlt (ho _ rfl))).trans hcc⟩
theorem RdU.cut (h : RdU w A l) (n : Nat) : RdU w A (l.take n) := fun k x hx => h k x (by
  rw [List.getElem?_take] at hx
  split at hx
  · exact hx
  · cases hx)
end

/-- A slice at A, of the call's own, whose block lies from lo up to hi, reads as the list l of numbers. -/
def Own (t : TypeId) (w : World) (lo hi : Nat) (A : Option Addr) (l : List Int) : Prop :=
  l = [] ∨ ∃ (g : Nat) (cs : Array Value), A = some ⟨g, 0, none⟩ ∧ lo ≤ g ∧ g < hi ∧ Blk w g t cs ∧ ∀ (k : Nat) (x : Int), l[k]? = some x → cs[k]? = some (.int .i64 x)

section
variable {t : TypeId} {w w' : World} {lo hi : Nat} {A : Option Addr} {l : List Int}
theorem Own.rd (h : Own t w lo hi A l) : Rd w A l := by
  rcases h with rfl | ⟨g, cs, rfl, h1, h2, hb, hc⟩
  · exact Rd.nil_
  · intro k x hx
    refine ⟨g, 0, rfl, hb.lt, ?_⟩
    rw [hb.cell, Nat.zero_add]
    exact hc k x hx
theorem Own.chg {lo' hi' : Nat} (h : Own t w lo hi A l) (hb : Chg lo' hi' w w') (hd : hi ≤ lo' ∨ hi' ≤ lo) : Own t w' lo hi A l := by
  rcases h with rfl | ⟨g, cs, rfl, h1, h2, hk, hc⟩
  · exact .inl rfl
  · exact .inr ⟨g, cs, rfl, h1, h2, hk.chg hb (by omega), hc⟩
theorem Own.below {B : Nat} (h : Own t w lo hi A l) (hb : Below B w w') (hd : hi ≤ B) : Own t w' lo hi A l := by
  rcases h with rfl | ⟨g, cs, rfl, h1, h2, hk, hc⟩
  · exact .inl rfl
  · exact .inr ⟨g, cs, rfl, h1, h2, hk.below hb (by omega), hc⟩
theorem Own.wide {lo' hi' : Nat} (h : Own t w lo hi A l) (h1 : lo' ≤ lo) (h2 : hi ≤ hi') : Own t w lo' hi' A l := by
  rcases h with rfl | ⟨g, cs, rfl, k1, k2, hk, hc⟩
  · exact .inl rfl
  · exact .inr ⟨g, cs, rfl, by omega, by omega, hk, hc⟩
theorem Own.of_blk {g : Nat} {cs : Array Value} (hb : Blk w g t cs) (h1 : lo ≤ g) (h2 : g < hi) (hc : ∀ (k : Nat) (x : Int), l[k]? = some x → cs[k]? = some (Value.int .i64 x)) : Own t w lo hi (some ⟨g, 0, none⟩) l :=
  .inr ⟨g, cs, rfl, h1, h2, hb, hc⟩
theorem Own.of_row {n c size : Nat} (h : w.ownsRow lo t size (.slice A n c) n (l.map (Value.int .i64))) (hh : w.heap.size ≤ hi) : Own t w lo hi A l := by
  rcases h with ⟨hl, ⟨e, rfl⟩ | ⟨g, cap, cur, e, hb, hg, _, _, _, ht⟩⟩
  · exact .inl (by subst_vars; simpa using hl)
  · injection e with e1 e2 e3
    subst e1
    have hlt : g < w.heap.size := (Array.getElem?_eq_some_iff.1 hg).1
    refine .inr ⟨g, cur, rfl, hb, by omega, hg, fun k x hx => ?_⟩
    have h1 : (l.map (Value.int .i64))[k]? = some (.int .i64 x) := by simp [hx]
    rw [← ht, List.getElem?_take] at h1
    split at h1
    · simpa using h1
    · cases h1
theorem Own.nil_ : Own t w lo hi A [] := .inl rfl
end

theorem Own.of_lit {t : TypeId} {w : World} {lo hi g : Nat} {l : List Int} (hb : Blk w g t (l.map (Value.int .i64)).toArray) (h1 : lo ≤ g) (h2 : g < hi) : Own t w lo hi (some ⟨g, 0, none⟩) l :=
  .inr ⟨g, _, rfl, h1, h2, hb, fun k x hx => by simp [hx]⟩
theorem cells_set {cs : Array Value} {l : List Int} {i : Nat} (v : Int) (hi : i < l.length) (h : ∀ (k : Nat) (x : Int), l[k]? = some x → cs[k]? = some (Value.int .i64 x)) :
    ∀ (k : Nat) (x : Int), (l.set i v)[k]? = some x → (cs.setIfInBounds i (Value.int .i64 v))[k]? = some (Value.int .i64 x) := by
  have hs : i < cs.size := (Array.getElem?_eq_some_iff.1 (h i _ (List.getElem?_eq_getElem hi))).1
  intro k x hx
  by_cases e : i = k
  · subst e
    rw [List.getElem?_set_self hi] at hx
    injection hx with hx
    subst hx
    simp [hs]
  · rw [List.getElem?_set_ne e] at hx
    rw [Array.getElem?_setIfInBounds_ne e]
    exact h k x hx
theorem own_slice {w : World} {base n size : Nat} {t : TypeId} {v : Value} {xs : List Value} (h : w.ownsRow base t size v n xs) : ∃ A c, v = .slice A n c ∧ n ≤ c := by
  rcases h.2 with ⟨rfl, rfl⟩ | ⟨g, cap, cur, rfl, _, _, hc, _⟩
  · exact ⟨none, 0, rfl, Nat.le_refl _⟩
  · exact ⟨_, cap, rfl, hc⟩
theorem below_grown {w w' : World} (h : w.grownBy w' none) : Below w.heap.size w w' := ⟨h.os, h.tape, h.output, h.size, fun k hk => h.block k hk (by simp)⟩
theorem blk_of_full {w' : World} {lo g n c size : Nat} {t : TypeId} {xs : List Value} (h : w'.ownsRow lo t size (.slice (some ⟨g, 0, none⟩) n c) n xs) (hc : n = c) : ∃ cs, Blk w' g t cs ∧ cs.toList = xs := by
  rcases h with ⟨_, ⟨e, _⟩ | ⟨g', cap, cur, e, _, hg, hn, _, hs, ht⟩⟩
  · cases e
  · injection e with e1 e2 e3
    injection e1 with e1
    injection e1 with e1
    subst e1 e3 hc
    refine ⟨cur, hg, ?_⟩
    rw [← ht, List.take_of_length_le (by simp [hs])]

theorem cells_next {cs : Array Value} {l : List Int} {k : Nat} {x : Int} (hk : k < cs.size) (hx : l[k]? = some x) (h : ∀ (j : Nat) (y : Int), j < k → l[j]? = some y → cs[j]? = some (Value.int .i64 y)) :
    ∀ (j : Nat) (y : Int), j < k + 1 → l[j]? = some y → (cs.setIfInBounds k (Value.int .i64 x))[j]? = some (Value.int .i64 y) := by
  intro j y hj hy
  by_cases e : k = j
  · subst e
    rw [hx] at hy
    injection hy with hy
    subst hy
    simp [hk]
  · rw [Array.getElem?_setIfInBounds_ne e]
    exact h j y (by omega) hy

theorem all_next {α : Type} {P : α → Prop} {l : List α} {k : Nat} {x : α} (h : ∀ y ∈ l.take k, P y) (hx : l[k]? = some x) (hp : P x) : ∀ y ∈ l.take (k + 1), P y := by
  obtain ⟨hk, rfl⟩ := List.getElem?_eq_some_iff.1 hx
  rw [List.take_succ_eq_append_getElem hk]
  intro y hy
  rcases List.mem_append.1 hy with h1 | h1
  · exact h y h1
  · rw [List.mem_singleton.1 h1]; exact hp
theorem all_end {α : Type} {P : α → Prop} {l : List α} {k : Nat} (h : ∀ y ∈ l.take k, P y) (hk : l.length ≤ k) : ∀ y ∈ l, P y := by rwa [List.take_of_length_le hk] at h
theorem mem_at {α : Type} {l : List α} {k : Nat} {x : α} (hx : l[k]? = some x) : x ∈ l := List.mem_of_getElem? hx

theorem take_next {α : Type} {l : List α} {k : Nat} {x : α} (h : l[k]? = some x) : l.take (k + 1) = l.take k ++ [x] := by
  obtain ⟨hk, rfl⟩ := List.getElem?_eq_some_iff.1 h
  rw [List.take_succ_eq_append_getElem hk]
theorem take_eq_next {α : Type} {l m : List α} {k : Nat} {x : α} (hl : l[k]? = some x) (hm : m[k]? = some x) (h : l.take k = m.take k) : l.take (k + 1) = m.take (k + 1) := by
  rw [take_next hl, take_next hm, h]
theorem eq_of_takes {α : Type} {l m : List α} {k : Nat} (hl : l.length ≤ k) (hm : m.length ≤ k) (h : l.take k = m.take k) : l = m := by
  rwa [List.take_of_length_le hl, List.take_of_length_le hm] at h
theorem ne_of_at {α : Type} {l m : List α} {k : Nat} {x y : α} (hl : l[k]? = some x) (hm : m[k]? = some y) (h : ¬ x = y) : ¬ l = m := by
  rintro rfl
  rw [hl] at hm
  exact h (by injection hm)
/-- append onto a row of the call's own, at an operation that is guarded and whose guard holds. -/
theorem wpList_append_ownG {P : Program} {w : World} {ops : Array Oper} {rest : List Oper} {o : Oper} {a : Act} {Q : Exit → Act → World → Prop} (hw : Region.wanted o (yielded ops a.tmps) = true) (s x : Operand) (t : TypeId)
    (ho : o.op = .call { callee := .builtin .append, args := #[s, x], argTypes := #[t, t] })
    (base : Nat) (e : TypeId) (i : TypeInfo) (z : Value) (size bytes : Nat) (ht : P.underlying t = some (.slice e)) (hi : P.info? e = some i) (hz : i.zero = some z)
    (hsize : i.size = size) (hby : i.bytes = bytes) (hzs : z.cells.size = size) (hsz : 0 < size)
    (v : Value) (n : Nat) (xs : List Value) (hs : a.eval s = v) (hown : w.ownsRow base e size v n xs)
    (ad : Addr) (m c : Nat) (news : List Value) (hx : a.eval x = .slice (some ad) m c) (hl : news.length = m * size) (hnews : ∀ j u, news[j]? = some u → w.cell? (ad.add j) = some u) (h1 : ∀ u ∈ news, u.oneCell' = true)
    (h63 : n + m ≤ maxLen) (hbytes : (n + m) * bytes ≤ 140737488355328) (hbase : base ≤ w.heap.size)
    (h : ∀ v' w', w'.ownsRow base e size v' (n + m) (xs ++ news) → w.grownBy w' v.ownBlock → (v' = .slice none 0 0 ↔ v = .slice none 0 0 ∧ m = 0) → wpList P ops Q rest (a.put o.dst v') w') : wpList P ops Q (o :: rest) a w := by
  rw [wpList, if_pos hw]
  exact .inl (wp_append_own w s x t ho base e i z size bytes ht hi hz hsize hby hzs hsz v n xs hs hown ad m c news hx hl hnews h1 h63 hbytes hbase h)
end Go.Proofs.Ytphncbnnnickhaa
