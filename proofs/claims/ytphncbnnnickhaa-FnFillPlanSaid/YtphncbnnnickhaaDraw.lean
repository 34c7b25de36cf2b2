/- The reader of a code: opening it, and picking a number below a bound. What is drawn is some number in its range; the walk says no more of it. -/
import Derived.Test.YtphncbnnnickhaaCom
import Derived.Deep.RegionHeld3
import Derived.Deep.RegionLaw
import Derived.Deep.AppendLies
namespace Go.Proofs.Ytphncbnnnickhaa
open Go.RowKit
set_option linter.unusedVariables false

/-- Block g is a reader: a slice of at most 2000 bytes that lies below lo, and a position of at most p. -/
def Rdr (w : World) (lo g p : Nat) : Prop :=
  ∃ (A : Option Addr) (n c q : Nat) (l : List Int), Blk w g 86 #[.slice A n c, .int .i64 q] ∧ lo ≤ g ∧ q ≤ p ∧ n = l.length ∧ n ≤ 2000 ∧ RdU w A l ∧ (0 < n → ∀ a, A = some a → a.block < lo)

theorem Rdr.drewN {w : World} {lo g p : Nat} (h : Rdr w lo g p) (n : Nat) : Rdr (w.drewN n) lo g p := h
theorem Rdr.drew {w : World} {lo g p : Nat} (h : Rdr w lo g p) : Rdr w.drew lo g p := h
theorem Rdr.more {w : World} {lo g p p' : Nat} (h : Rdr w lo g p) (hp : p ≤ p') : Rdr w lo g p' := by
  obtain ⟨A, n, c, q, l, h1, h2, h3, h4, h5, h6, h7⟩ := h
  exact ⟨A, n, c, q, l, h1, h2, by omega, h4, h5, h6, h7⟩
theorem Rdr.lt {w : World} {lo g p : Nat} (h : Rdr w lo g p) : g < w.heap.size := by
  obtain ⟨A, n, c, q, l, h1, _⟩ := h
  exact h1.lt
theorem Rdr.lo {w : World} {lo g p : Nat} (h : Rdr w lo g p) : lo ≤ g := by
  obtain ⟨A, n, c, q, l, h1, h2, _⟩ := h
  exact h2
theorem Rdr.chg {w w' : World} {lo g p a b : Nat} (h : Rdr w lo g p) (hc : Chg a b w w') (h1 : lo ≤ a) (h2 : g < a ∨ b ≤ g) : Rdr w' lo g p := by
  obtain ⟨A, n, c, q, l, k1, k2, k3, k4, k5, k6, k7⟩ := h
  refine ⟨A, n, c, q, l, k1.chg hc h2, k2, k3, k4, k5, fun k x hx => ?_, k7⟩
  obtain ⟨b, off, rfl, hlt, r0, r1, hcc⟩ := k6 k x hx
  have hk := (List.getElem?_eq_some_iff.1 hx).1
  have := k7 (by omega) _ rfl
  exact ⟨b, off, rfl, Nat.lt_of_lt_of_le hlt hc.size, r0, r1, (World.cell?_of_block (a := ⟨b, off + k, none⟩) (hc.block b hlt (.inl (by simp at this; omega)))).trans hcc⟩
theorem Rdr.below {w w' : World} {lo g p B : Nat} (h : Rdr w lo g p) (hc : Below B w w') (h2 : g < B) : Rdr w' lo g p := by
  obtain ⟨A, n, c, q, l, k1, k2, k3, k4, k5, k6, k7⟩ := h
  refine ⟨A, n, c, q, l, k1.below hc h2, k2, k3, k4, k5, fun k x hx => ?_, k7⟩
  obtain ⟨b, off, rfl, hlt, r0, r1, hcc⟩ := k6 k x hx
  have hk := (List.getElem?_eq_some_iff.1 hx).1
  have := k7 (by omega) _ rfl
  exact ⟨b, off, rfl, Nat.lt_of_lt_of_le hlt hc.size, r0, r1, (hc.cell (p := ⟨b, off + k, none⟩) (by simp at this ⊢; omega)).trans hcc⟩
theorem Rdr.alloc {w : World} {lo g p : Nat} (h : Rdr w lo g p) (o : Obj) : Rdr (w.alloc o) lo g p := h.below ((Below.refl _ _).alloc (Nat.le_refl _) o) h.lt

/-- What a call leaves that draws from the reader g: only the reader's block and new ones have changed; k numbers were drawn at most. -/
structure Drawn (lo g p : Nat) (w w' : World) : Prop where
  rdr : Rdr w' lo g p
  chg : Chg g (g + 1) w w'
theorem Drawn.below {lo g p : Nat} {w w' : World} (h : Drawn lo g p w w') (hw : lo ≤ w.heap.size) : Below lo w w' := h.chg.below h.rdr.lo hw
theorem Drawn.trans {lo g p p' : Nat} {w w1 w2 : World} (h : Drawn lo g p w w1) (k : Drawn lo g p' w1 w2) : Drawn lo g p' w w2 := ⟨k.rdr, h.chg.trans k.chg⟩
theorem Drawn.below_new {lo g p : Nat} {w w1 w2 : World} (h : Drawn lo g p w w1) (hb : Below w1.heap.size w1 w2) : Drawn lo g p w w2 :=
  ⟨h.rdr.below hb h.rdr.lt, h.chg.trans ⟨hb.os, hb.tape, hb.output, hb.size, fun k hk _ => hb.block k hk⟩⟩
theorem Rdr.grown {w w' : World} {lo g p : Nat} {row : Option Nat} (h : Rdr w lo g p) (hg : w.grownBy w' row) (hr : ∀ k, row = some k → g < k) : Rdr w' lo g p :=
  h.below (B := g + 1) ⟨hg.os, hg.tape, hg.output, hg.size, fun k hk => hg.block k (by have := h.lt; omega) (fun e => by have := hr k e.symm; omega)⟩ (by omega)
theorem Drawn.grown {lo g p : Nat} {w w1 w2 : World} {row : Option Nat} (h : Drawn lo g p w w1) (hg : w1.grownBy w2 row) (hw : g < w.heap.size) (hr : ∀ k, row = some k → w.heap.size ≤ k) : Drawn lo g p w w2 :=
  ⟨h.rdr.grown hg (fun k e => by have := hr k e; omega), ⟨hg.os.trans h.chg.os, hg.tape.trans h.chg.tape, hg.output.trans h.chg.output, Nat.le_trans h.chg.size hg.size,
    fun k hk hr' => (hg.block k (Nat.lt_of_lt_of_le hk h.chg.size) (fun e => by have := hr k e.symm; omega)).trans (h.chg.block k hk hr')⟩⟩
theorem Drawn.alloc {lo g p : Nat} {w w1 : World} (h : Drawn lo g p w w1) (o : Obj) : Drawn lo g p w (w1.alloc o) := h.below_new ((Below.refl _ _).alloc (Nat.le_refl _) o)
theorem Drawn.setNew {lo g p : Nat} {w w1 : World} (h : Drawn lo g p w w1) {a : Addr} (ha : w.heap.size ≤ a.block) (hg : g < w.heap.size) (u : Value) : Drawn lo g p w (w1.setCell a u) :=
  ⟨h.rdr.below (B := g + 1) ⟨rfl, rfl, rfl, by simp [World.setCell], fun k hk => Below.heap_setCell w1 a u k (by omega)⟩ (by omega),
   ⟨h.chg.os, h.chg.tape, h.chg.output, by have := h.chg.size; simpa [World.setCell] using this, fun k hk hr => (Below.heap_setCell w1 a u k (by omega)).trans (h.chg.block k hk hr)⟩⟩
theorem Drawn.drewN {lo g p : Nat} {w w1 : World} (h : Drawn lo g p w w1) (n : Nat) : Drawn lo g p w (w1.drewN n) := ⟨h.rdr.drewN n, h.chg.drewN n⟩
theorem Drawn.drew {lo g p : Nat} {w w1 : World} (h : Drawn lo g p w w1) : Drawn lo g p w w1.drew := h.drewN 1
theorem row_chg {w w' : World} {base a b size n : Nat} {t : TypeId} {v : Value} {xs : List Value} (h : w.ownsRow base t size v n xs) (hc : Chg a b w w') (hb : b ≤ base) : w'.ownsRow base t size v n xs := by
  refine ⟨h.1, ?_⟩
  rcases h.2 with hn | ⟨g, cap, cur, rfl, hbg, hgg, rest⟩
  · exact .inl hn
  · exact .inr ⟨g, cap, cur, rfl, hbg, (hc.block g (Array.getElem?_eq_some_iff.1 hgg).1 (.inr (by omega))).trans hgg, rest⟩
theorem Drawn.refl {lo g p : Nat} {w : World} (h : Rdr w lo g p) : Drawn lo g p w w := ⟨h, Chg.refl _ _ _⟩
theorem Drawn.more {lo g p p' : Nat} {w w' : World} (h : Drawn lo g p w w') (hp : p ≤ p') : Drawn lo g p' w w' := ⟨h.rdr.more hp, h.chg⟩

set_option maxHeartbeats 400000 in
theorem open_any {A : Option Addr} {l : List Int} {c : Nat} (w : World) (ha : RdU w A l) (hc : l.length ≤ c) (hl : l.length ≤ 1048576) :
    Calls Try.prog 53 #[.slice A l.length c] w fun e w' => ∃ g, e = .returned (.pointer (some ⟨g, 0, none⟩)) ∧ Rdr w' w.heap.size g 0 ∧ Below w.heap.size w w' := by
  have hA : ∀ a, 0 < l.length → A = some a → a.block < w.heap.size := by
    intro a h e
    obtain ⟨b, off, x, rfl, hb, _⟩ := ha.at_ h
    injection e with e; rw [← e]; exact hb
  by_cases h0 : 0 < l.length
  · by_cases h : 2000 < l.length
    · have h2 : 2000 ≤ c := by omega
      have Hb := Lib.hid (p := Blk (w.alloc (.cells #[.slice A 2000 c, .int .i64 0] 86)) w.heap.size 86 #[.slice A 2000 c, .int .i64 ((0 : Nat) : Int)]) (Blk.new _ _ _)
      go_enter Try.func53, Try.ntmps53
      go_wp2
      go_ret
      exact ⟨w.heap.size, rfl, ⟨A, 2000, c, 0, l.take 2000, Hb.out, Nat.le_refl _, by omega, by simp; omega, by omega, (ha.cut _).alloc _, fun _ a e => hA a h0 e⟩, (Below.refl _ _).alloc (Nat.le_refl _) _⟩
    · have Hb := Lib.hid (p := Blk (w.alloc (.cells #[.slice A l.length c, .int .i64 0] 86)) w.heap.size 86 #[.slice A l.length c, .int .i64 ((0 : Nat) : Int)]) (Blk.new _ _ _)
      go_enter Try.func53, Try.ntmps53
      go_wp2
      go_ret
      exact ⟨w.heap.size, rfl, ⟨A, l.length, c, 0, l, Hb.out, Nat.le_refl _, by omega, rfl, by omega, ha.alloc _, fun _ a e => hA a h0 e⟩, (Below.refl _ _).alloc (Nat.le_refl _) _⟩
  · have hl0 : l.length = 0 := by omega
    have Hb := Lib.hid (p := Blk (w.alloc (.cells #[.slice A l.length c, .int .i64 0] 86)) w.heap.size 86 #[.slice A l.length c, .int .i64 ((0 : Nat) : Int)]) (Blk.new _ _ _)
    have HL := Lib.hid hl0
    clear hl0
    go_enter Try.func53, Try.ntmps53
    go_wp2
    go_ret
    exact ⟨w.heap.size, rfl, ⟨A, l.length, c, 0, l, Hb.out, Nat.le_refl _, by omega, rfl, by omega, ha.alloc _, fun h => absurd h (by omega)⟩, (Below.refl _ _).alloc (Nat.le_refl _) _⟩

theorem ofInt_i64 (a : Nat) (ha : a < 9223372036854775808) : (BitVec.ofInt 64 (a : Int)).toNat = a := by
  rw [BitVec.ofInt_natCast, BitVec.toNat_ofNat]; exact Nat.mod_eq_of_lt (by omega)
theorem i64_xor_nat (a b : Nat) (ha : a < 9223372036854775808) (hb : b < 9223372036854775808) : bits .xor .i64 (a : Int) (b : Int) = ((a ^^^ b : Nat) : Int) := by
  have hx : a ^^^ b < 2 ^ 63 := Nat.xor_lt_two_pow (by omega) (by omega)
  show IntKind.i64.wrap ((BitVec.ofInt 64 (a : Int) ^^^ BitVec.ofInt 64 (b : Int)).toNat : Int) = _
  rw [BitVec.toNat_xor, ofInt_i64 a ha, ofInt_i64 b hb, IntKind.wrap_i64]
  omega
theorem xor_some (x : Int) (h0 : 0 ≤ x) (h1 : x ≤ 4611686018427387904) : ∃ z : Int, 0 ≤ z ∧ bits .xor .i64 x (x / 64) = z := by
  obtain ⟨a, rfl⟩ := Int.eq_ofNat_of_zero_le h0
  have : ((a : Int) / 64) = ((a / 64 : Nat) : Int) := by omega
  rw [this]
  exact ⟨_, Int.natCast_nonneg _, i64_xor_nat a (a / 64) (by omega) (by omega)⟩

def Picked (n : Int) (lo g p : Nat) (w : World) (e : Ending) (w' : World) : Prop :=
  ∃ x : Int, 0 ≤ x ∧ x < n ∧ e = .returned (.int .i64 x) ∧ Drawn lo g (p + 1) w w' ∧ Hid (w'.heap.size = w.heap.size)

theorem picked {n : Int} {lo g p q : Nat} {w : World} {A : Option Addr} {m c : Nat} {l : List Int} {x : Int} {nq : Nat} (hb : Blk w g 86 #[.slice A m c, .int .i64 q]) (h2 : lo ≤ g) (h3 : q ≤ p) (h4 : m = l.length) (h5 : m ≤ 2000)
    (h6 : RdU w A l) (h7 : 0 < m → ∀ a, A = some a → a.block < lo) (x0 : 0 ≤ x) (xn : x < n) : Picked n lo g p w (.returned (.int .i64 x)) ((w.setCell ⟨g, 1, none⟩ (.int .i64 ((q : Int) + 1))).drewN nq) := by
  have hc : Chg g (g + 1) w ((w.setCell ⟨g, 1, none⟩ (.int .i64 ((q : Int) + 1))).drewN nq) := ((Chg.refl _ _ _).setCell (p := ⟨g, 1, none⟩) (Nat.le_refl _) (by simp) _).drewN nq
  have hb' : Blk ((w.setCell ⟨g, 1, none⟩ (.int .i64 ((q : Int) + 1))).drewN nq) g 86 #[.slice A m c, .int .i64 ((q + 1 : Nat) : Int)] := by
    have := (hb.set_ 1 (.int .i64 ((q : Int) + 1))).drewN nq
    simpa using this
  refine ⟨x, x0, xn, rfl, ⟨⟨A, m, c, q + 1, l, hb', h2, by omega, h4, h5, fun k y hy => ?_, h7⟩, hc⟩, by show _ = _; simp [World.setCell]⟩
  obtain ⟨b, off, rfl, hlt, r0, r1, hcc⟩ := h6 k y hy
  have hk := (List.getElem?_eq_some_iff.1 hy).1
  have := h7 (by omega) _ rfl
  exact ⟨b, off, rfl, Nat.lt_of_lt_of_le hlt hc.size, r0, r1, (World.cell?_of_block (a := ⟨b, off + k, none⟩) (hc.block b hlt (.inl (by simp at this; omega)))).trans hcc⟩

set_option maxHeartbeats 1000000 in
theorem pick_any (lo g p : Nat) (n : Int) (w : World) (h : Rdr w lo g p) (hp : p ≤ 1048576) (hn : 1 ≤ n) (hn2 : n ≤ 1048576) :
    Calls Try.prog 79 #[.pointer (some ⟨g, 0, none⟩), .int .i64 n] w (Picked n lo g p w) := by
  obtain ⟨A, m, c, q, l, h1, h2, h3, rfl, h5, h6, h7⟩ := h
  have c0 := h1.cell 0
  have c1 := h1.cell 1
  have f1 := h1.frozen 1
  simp at c0 c1
  by_cases h0 : 0 < l.length
  · have hb0 : ((l.length : Int) == 0) = false := beq_eq_false_iff_ne.2 (by omega)
    by_cases hq : q < l.length
    · obtain ⟨b, off, x, rfl, hlt, x0, x9, hcx⟩ := h6.at_ hq
      have hne : ¬ b = g := by intro e; have h8 : b < lo := h7 h0 _ rfl; omega
      go_enter Try.func79, Try.ntmps79
      go_wp2
      go_ret
      exact picked (nq := 0) h1 h2 h3 rfl h5 h6 h7 (Int.emod_nonneg _ (by omega)) (Int.emod_lt_of_pos _ (by omega))
    · have l0 : (0 : Int) < l.length := by omega
      have q1 : 0 ≤ (q : Int) % (l.length : Int) := Int.emod_nonneg _ (by omega)
      have q2 : (q : Int) % (l.length : Int) < (l.length : Int) := Int.emod_lt_of_pos _ (by omega)
      have q3 : 0 ≤ ((q : Int) * 7 + 3) % (l.length : Int) := Int.emod_nonneg _ (by omega)
      have q4 : ((q : Int) * 7 + 3) % (l.length : Int) < (l.length : Int) := Int.emod_lt_of_pos _ (by omega)
      obtain ⟨b, off, x, rfl, hlt, x0, x9, hcx⟩ := h6.at_ (k := q % l.length) (Nat.mod_lt _ h0)
      obtain ⟨b', off', y, e, hlt', y0, y9, hcy⟩ := h6.at_ (k := (q * 7 + 3) % l.length) (Nat.mod_lt _ h0)
      injection e with e
      injection e with e1 e2 e3
      subst e1 e2
      have hne : ¬ b = g := by intro e; have h8 : b < lo := h7 h0 _ rfl; omega
      have d1 : 0 ≤ (q : Int) / (l.length : Int) := Int.ediv_nonneg (by omega) (by omega)
      have d2 : (q : Int) / (l.length : Int) ≤ 1048576 := by
        have := Int.ediv_le_self (l.length : Int) (by omega : 0 ≤ (q : Int))
        omega
      obtain ⟨z, z0, hz⟩ := xor_some (x * 131 + y * 1117 + (q : Int) * 29 + (q : Int) / (l.length : Int) * 53) (by omega) (by omega)
      have Hz := Lib.hid hz
      clear hz
      go_enter Try.func79, Try.ntmps79
      go_wp2
      go_quiet (fail)
      have hz := Hz.out
      go_wp2
      go_ret
      exact picked h1 h2 h3 rfl h5 h6 h7 (Int.emod_nonneg _ (by omega)) (Int.emod_lt_of_pos _ (by omega))
  · have hl0 : l.length = 0 := by omega
    have hb0 : ((l.length : Int) == 0) = true := beq_iff_eq.2 (by omega)
    go_enter Try.func79, Try.ntmps79
    go_wp2
    go_ret
    exact picked (nq := 0) h1 h2 h3 rfl h5 h6 h7 (Int.le_refl _) (by omega)
def Odds (lo g p : Nat) (w : World) (e : Ending) (w' : World) : Prop :=
  ∃ b : Bool, e = .returned (.bool b) ∧ Drawn lo g (p + 1) w w' ∧ Hid (w'.heap.size = w.heap.size)

set_option maxHeartbeats 400000 in
theorem odd_any (lo g p : Nat) (n : Int) (w : World) (h : Rdr w lo g p) (hp : p ≤ 1048576) (hn : 1 ≤ n) (hn2 : n ≤ 1048576) :
    Calls Try.prog 81 #[.pointer (some ⟨g, 0, none⟩), .int .i64 n] w (Odds lo g p w) := by
  go_enter Try.func81, Try.ntmps81
  go_wp2_with fail
  refine (pick_any lo g p n w h hp hn hn2).mono ?_
  rintro e w' ⟨x, x0, xn, rfl, hd, hs⟩
  go_wp2_with fail
  go_ret
  exact ⟨_, rfl, hd, hs⟩

/-- append onto a row of the call's own, at a step of a region that draws its order. -/
theorem step_append_own {P : Program} {w : World} {ops : Array Oper} {o : Oper} {a : Act} {K : Act → World → Prop} {Q : Exit → Act → World → Prop} {E : Prop} (hgd : o.guard = none) (s x : Operand) (t : TypeId)
    (ho : o.op = .call { callee := .builtin .append, args := #[s, x], argTypes := #[t, t] })
    (base : Nat) (e : TypeId) (i : TypeInfo) (z : Value) (size bytes : Nat) (ht : P.underlying t = some (.slice e)) (hi : P.info? e = some i) (hz : i.zero = some z)
    (hsize : i.size = size) (hby : i.bytes = bytes) (hzs : z.cells.size = size) (hsz : 0 < size)
    (v : Value) (n : Nat) (xs : List Value) (hs : a.eval s = v) (hown : w.ownsRow base e size v n xs)
    (ad : Addr) (m c : Nat) (news : List Value) (hx : a.eval x = .slice (some ad) m c) (hl : news.length = m * size) (hnews : ∀ j u, news[j]? = some u → w.cell? (ad.add j) = some u) (h1 : ∀ u ∈ news, u.oneCell' = true)
    (h63 : n + m ≤ maxLen) (hbytes : (n + m) * bytes ≤ 140737488355328) (hbase : base ≤ w.heap.size)
    (h : ∀ v' w', w'.ownsRow base e size v' (n + m) (xs ++ news) → w.grownBy w' v.ownBlock → K (a.put o.dst v') w') :
    if Region.wanted o (yielded ops a.tmps) = true then Oper.wp P o a w K Q else E := by
  have hw : Region.wanted o (yielded ops a.tmps) = true := by simp [Region.wanted, hgd]
  rw [if_pos hw]
  exact wp_append_own w s x t ho base e i z size bytes ht hi hz hsize hby hzs hsz v n xs hs hown ad m c news hx hl hnews h1 h63 hbytes hbase fun v' w' h2 h3 _ => h v' w' h2 h3

theorem lit_row {base : Nat} {e : TypeId} {size : Nat} (w : World) (cs : Array Value) (n : Nat) (hb : base ≤ w.heap.size) (hm : n ≤ maxLen) (hs : cs.size = n * size) (H : Nat) (hH : w.heap.size = H) :
    (w.alloc (.cells cs e)).ownsRow base e size (.slice (some ⟨H, 0, none⟩) n n) n cs.toList := by
  subst hH
  exact World.ownsRow_lit w cs n hb hm hs
theorem lit_cell {w w4 : World} {g k : Nat} {cs : Array Value} {t : TypeId} {v : Value} (h : Chg g (g + 1) (w.alloc (.cells cs t)) w4) (hv : cs[k]? = some v) (hg : g < w.heap.size) : w4.cell? ⟨w.heap.size, k, none⟩ = some v := by
  have hb : Blk w4 w.heap.size t cs := (Blk.new w t cs).chg h (.inr (by omega))
  rw [hb.cell]
  exact hv
theorem lit_cell_drew {w w4 : World} {g k : Nat} {cs : Array Value} {t : TypeId} {v : Value} (h : Chg g (g + 1) (w.alloc (.cells cs t)).drew w4) (hv : cs[k]? = some v) (hg : g < w.heap.size) : w4.cell? ⟨w.heap.size, k, none⟩ = some v := by
  have hb : Blk w4 w.heap.size t cs := (show Blk (w.alloc (.cells cs t)).drew w.heap.size t cs from Blk.new w t cs).chg h (.inr (by omega))
  rw [hb.cell]
  exact hv
theorem keep_a {w w4 : World} {g b : Nat} {o : Obj} (h : Chg g (g + 1) (w.alloc o).drew w4) (hb : g < b) (hb2 : b < w.heap.size) : w4.heap[b]? = w.heap[b]? :=
  (h.block b (by show b < (w.alloc o).heap.size; simp; omega) (.inr (by omega))).trans (Below.heap_alloc w o b hb2)
theorem keep_b {w w4 : World} {g b : Nat} (h : Chg g (g + 1) w.drew w4) (hb : g < b) (hb2 : b < w.heap.size) : w4.heap[b]? = w.heap[b]? := h.block b hb2 (.inr (by omega))
theorem keep_1 {w Y : World} {b : Nat} {o : Obj} (h : w.heap[b]? = Y.heap[b]?) (hb : b < w.heap.size) : (w.alloc o).heap[b]? = Y.heap[b]? := (Below.heap_alloc w o b hb).trans h
theorem keep_2 {w Y : World} {b : Nat} {o o' : Obj} (h : w.heap[b]? = Y.heap[b]?) (hb : b < w.heap.size) : ((w.alloc o).alloc o').heap[b]? = Y.heap[b]? := keep_1 (keep_1 h hb) (by simp; omega)
theorem size_a {w w4 : World} {g : Nat} {o : Obj} (h : Chg g (g + 1) (w.alloc o).drew w4) : w.heap.size ≤ w4.heap.size := by have := h.size; simp at this; omega
theorem size_b {w w4 : World} {g : Nat} (h : Chg g (g + 1) w.drew w4) : w.heap.size ≤ w4.heap.size := h.size
/-- A list of two numbers, read at a place that was drawn. -/
theorem lit2 (a b : Int) (z : Int) (h0 : 0 ≤ z) (h2 : z < 2) : ∃ v : Int, (#[Value.int .i64 a, Value.int .i64 b] : Array Value)[z.toNat]? = some (.int .i64 v) ∧ (∀ h, ([Value.int .i64 a, Value.int .i64 b] : List Value)[z.toNat]'h = .int .i64 v) ∧ (v = a ∨ v = b) := by
  rcases (by omega : z = 0 ∨ z = 1) with rfl | rfl
  · exact ⟨a, rfl, fun _ => rfl, .inl rfl⟩
  · exact ⟨b, rfl, fun _ => rfl, .inr rfl⟩
theorem lit4 (a b c d : Int) (z : Int) (h0 : 0 ≤ z) (h2 : z < 4) : ∃ v : Int, (#[Value.int .i64 a, Value.int .i64 b, Value.int .i64 c, Value.int .i64 d] : Array Value)[z.toNat]? = some (.int .i64 v) ∧ (∀ h, ([Value.int .i64 a, Value.int .i64 b, Value.int .i64 c, Value.int .i64 d] : List Value)[z.toNat]'h = .int .i64 v) ∧ (v = a ∨ v = b ∨ v = c ∨ v = d) := by
  rcases (by omega : z = 0 ∨ z = 1 ∨ z = 2 ∨ z = 3) with rfl | rfl | rfl | rfl
  · exact ⟨a, rfl, fun _ => rfl, .inl rfl⟩
  · exact ⟨b, rfl, fun _ => rfl, .inr (.inl rfl)⟩
  · exact ⟨c, rfl, fun _ => rfl, .inr (.inr (.inl rfl))⟩
  · exact ⟨d, rfl, fun _ => rfl, .inr (.inr (.inr rfl))⟩
/-- The cells of a row behind its first element, where the cut begins. -/
theorem tail_cells {w Y : World} {base g1 c1 : Nat} {t : TypeId} {xs : List Value} {n : Nat} {a2 : Addr} (h : w.ownsRow base t 1 (.slice (some ⟨g1, 0, none⟩) n c1) n xs) (hn : 1 ≤ n) (hA : (if c1 = 1 then some (⟨g1, 0, none⟩ : Addr) else some ⟨g1, 1, none⟩) = some a2) (hY : Y.heap[g1]? = w.heap[g1]?) :
    ∀ j u, (xs.drop 1)[j]? = some u → Y.cell? (a2.add j) = some u := by
  intro j u hu
  have hc := h.cells (g := g1) rfl (1 + j) u (by rw [← hu, List.getElem?_drop])
  have hlen := h.1
  have hj : 1 + j < xs.length := by rw [List.getElem?_drop] at hu; exact (List.getElem?_eq_some_iff.1 hu).1
  have hcap : n ≤ c1 := by
    rcases h.2 with ⟨e, h0⟩ | ⟨g', cap, cur, e, _, _, h1, _⟩
    · omega
    · injection e with e1 e2 e3; omega
  rw [if_neg (by omega)] at hA
  injection hA with hA
  subst hA
  have e : ∀ k, (⟨g1, 0, none⟩ : Addr).add (1 + k) = (⟨g1, 1, none⟩ : Addr).add k := by
    intro k; unfold Addr.add; rw [if_neg (by omega)]
    by_cases h0 : k = 0
    · simp [h0]
    · simp [h0]
  rw [← e]
  rw [← hc]
  refine World.cell?_of_block ?_
  have : ((⟨g1, 0, none⟩ : Addr).add (1 + j)).block = g1 := by unfold Addr.add; split <;> rfl
  rw [this]
  exact hY
end Go.Proofs.Ytphncbnnnickhaa
