/- CycleOrder: the program's walk: a stable sort of the indices. -/
import Derived.Test.YtkkpegmokejfkaaPair
import Derived.Test.YtkkpegmokejfkaaSort
import Derived.Test.YtkkpegmokejfkaaSortLaw
import Derived.Laws.OwnMore
namespace Go.Proofs.Ytkkpegmokejfkaa
open Go.RowKit Go.Shelf
set_option linter.unusedVariables false
set_option linter.unusedSimpArgs false

theorem marks_list {cs : Array Value} {n : Nat} {k : Int} (hs : cs.size = n) (h : ∀ (j : Nat) (x : Int), j < n → (marks n k)[j]? = some x → cs[j]? = some (Value.int .i64 x)) : cs.toList = (marks n k).map (Value.int .i64) := by
  apply List.ext_getElem?
  intro j
  by_cases hj : j < n
  · have h1 := marks_at n k j hj
    rw [List.getElem?_map, h1, Array.getElem?_toList, h j _ hj h1]; rfl
  · rw [List.getElem?_eq_none (by simp; omega), List.getElem?_eq_none (by simp [marks_length]; omega)]
set_option maxHeartbeats 800000 in
theorem indices_any (n : Nat) (w : World) (hn : n ≤ 1000) :
    Calls Try.prog 35 #[.int .i64 n] w fun e w' => e = .returned (.slice (some ⟨w.heap.size, 0, none⟩) n n) ∧ (∃ cs : Array Value, Blk w' w.heap.size 3 cs ∧ cs.toList = (marks n 0).map (Value.int .i64)) ∧ Below w.heap.size w w' := by
  obtain ⟨i0, hi, hz0, hz1, hz2⟩ := info_parts info_int
  go_enter Try.func35, Try.ntmps35
  go_wp2_with (at_make; refine wpList_make_full _ rfl _ _ 29 rfl w.heap.size 3 i0 (.int .i64 0) 1 Try.underlying29 hi hz0 hz1 .i64 .i64 _ _ n rfl rfl rfl rfl ?c1 ?c2 (Nat.le_refl _) ?_)
  case c1 => rw [hz2]; omega
  case c2 => unfold maxLen; omega
  intro w1 hrow hg1
  obtain ⟨cs0, hb0, hcs0⟩ := blk_of_full hrow rfl
  have H0 : Hid (cs0.size = n) := by
    have h := congrArg List.length hcs0
    simp [size_madeCells] at h
    exact h
  have hb1 := below_grown hg1
  clear hrow hg1 hcs0 hz0 hz1 hz2 hi
  go_wp2_with fail
  go_loopw [9] (fun i wr => ∃ (k : Nat) (cs : Array Value), k ≤ n ∧ i = .int .i64 k ∧ Blk wr w.heap.size 3 cs ∧ Hid (cs.size = n) ∧ Hid (∀ (j : Nat) (x : Int), j < k → (marks n 0)[j]? = some x → cs[j]? = some (Value.int .i64 x)) ∧ Below w.heap.size w wr) (fun i _ => n - (intOf i).toNat)
  case atStart => exact ⟨0, cs0, by omega, rfl, hb0, H0, (fun j x hj => absurd hj (by omega)), hb1⟩
  case round =>
    obtain ⟨k, cs, hk, rfl, hblk, Hs, Hc, hbw⟩ := hrel
    by_cases hlt : k < n
    · have hks : k < cs.size := by have := Hs.out; omega
      obtain ⟨u, hu⟩ : ∃ u, cs[k]? = some u := ⟨cs[k], by simp [hks]⟩
      have hc2 : _ := (hblk.cell k).trans hu
      have hf2 := hblk.frozen k
      clear hu
      have HM := Lib.hid (marks_next (k0 := 0) (n := n) hks Hc.out)
      go_wp2_with fail
      exact ⟨⟨k + 1, _, by omega, by go_num, hblk.set_ k _, by have h := Hs.out; show _ = _; simpa using h, by have h := HM.out; simp only [Int.zero_add] at h; exact h, hbw.setCell (Nat.le_refl _) _⟩, by simp [intOf]; omega⟩
    · have HE := Lib.hid (marks_list Hs.out (fun j x hj => Hc.out j x (by omega)))
      go_wp2_with fail
      go_ret
      exact ⟨rfl, ⟨cs, hblk, HE.out⟩, hbw⟩

/-- How two stacks are ordered. -/
def cmpT (x y : TaskV) : Int := if x.off_ < x.back then (if y.off_ < y.back then x.off_ - y.off_ else -1) else (if y.off_ < y.back then 1 else y.back - x.back)
def taskOf (l : List TaskV) (x : Int) : TaskV := (l[x.toNat]?).getD ⟨0, 0⟩
def cfT (l : List TaskV) (x y : Int) : Int := cmpT (taskOf l x) (taskOf l y)
def cycS (l : List TaskV) : List Int := if listV l = true then insS (cfT l) (marks l.length 0) else []
theorem taskOf_at {l : List TaskV} {j : Nat} {y : TaskV} (h : l[j]? = some y) : taskOf l (j : Int) = y := by unfold taskOf; rw [Int.toNat_natCast, h]; rfl
theorem taskOf_one {l : List TaskV} (hv : ∀ z ∈ l, oneV z) (x : Int) : 0 ≤ (taskOf l x).off_ ∧ (taskOf l x).off_ ≤ 99 ∧ 0 ≤ (taskOf l x).back ∧ (taskOf l x).back ≤ 99 := by
  unfold taskOf
  cases h : l[x.toNat]? with
  | none => simp
  | some z => have := hv z (List.mem_of_getElem? h); unfold oneV at this; simp; omega
theorem cfT_bd {l : List TaskV} (hv : ∀ z ∈ l, oneV z) (x y : Int) : -100000 ≤ cfT l x y ∧ cfT l x y ≤ 100000 := by
  have h1 := taskOf_one hv x
  have h2 := taskOf_one hv y
  unfold cfT cmpT
  split <;> split <;> omega
set_option maxHeartbeats 1600000 in
theorem cmp_any (x y : TaskV) (w : World) (hx : oneV x) (hy : oneV y) :
    Calls Try.prog 38 #[.agg #[.int .i64 x.off_, .int .i64 x.back], .agg #[.int .i64 y.off_, .int .i64 y.back]] w fun e w' => e = .returned (.int .i64 (cmpT x y)) ∧ Below w.heap.size w w' := by
  obtain ⟨a, b⟩ := x
  obtain ⟨p, q⟩ := y
  obtain ⟨⟨a1, a2⟩, b1, b2⟩ := hx
  obtain ⟨⟨p1, p2⟩, q1, q2⟩ := hy
  simp only at a1 a2 b1 b2 p1 p2 q1 q2
  have hb : Below w.heap.size w ((w.alloc (.cells #[.int .i64 a, .int .i64 b] 41)).alloc (.cells #[.int .i64 p, .int .i64 q] 41)) := ((Below.refl _ _).alloc (Nat.le_refl _) _).alloc (by simp) _
  obtain ⟨v, HV⟩ : ∃ v, Hid (cmpT ⟨a, b⟩ ⟨p, q⟩ = v) := ⟨_, rfl⟩
  rw [HV.out]
  by_cases h1 : a < b
  · have t1 : decide (a < b) = true := by simpa using h1
    by_cases h2 : p < q
    · have t2 : decide (p < q) = true := by simpa using h2
      have HO : Hid (v = a - p) := by show _ = _; rw [← HV.out]; simp [cmpT, h1, h2]
      go_enter Try.func38, Try.ntmps38
      go_wp2_with fail
      go_quiet (fail)
      go_wp2_with fail
      go_ret
      exact ⟨ret_int HO.out.symm, below_drewN hb _⟩
    · have t2 : decide (p < q) = false := by simpa using h2
      have HO : Hid (v = -1) := by show _ = _; rw [← HV.out]; simp [cmpT, h1, h2]
      go_enter Try.func38, Try.ntmps38
      go_wp2_with fail
      go_quiet (fail)
      go_wp2_with fail
      go_ret
      exact ⟨ret_int HO.out.symm, below_drewN hb _⟩
  · have t1 : decide (a < b) = false := by simpa using h1
    by_cases h2 : p < q
    · have t2 : decide (p < q) = true := by simpa using h2
      have HO : Hid (v = 1) := by show _ = _; rw [← HV.out]; simp [cmpT, h1, h2]
      go_enter Try.func38, Try.ntmps38
      go_wp2_with fail
      go_quiet (fail)
      go_wp2_with fail
      go_ret
      exact ⟨ret_int HO.out.symm, below_drewN hb _⟩
    · have t2 : decide (p < q) = false := by simpa using h2
      have HO : Hid (v = q - b) := by show _ = _; rw [← HV.out]; simp [cmpT, h1, h2]
      go_enter Try.func38, Try.ntmps38
      go_wp2_with fail
      go_quiet (fail)
      go_wp2_with fail
      go_ret
      exact ⟨ret_int HO.out.symm, below_drewN hb _⟩
set_option maxHeartbeats 1600000 in
theorem clo_cyc (A : Option Addr) (l : List TaskV) (c B : Nat) (x y : Int) (W : World) (ha : RdTask W A l) (hk : Blk W B 25 #[.slice A l.length c]) (hv : ∀ z ∈ l, oneV z) (hl : l.length ≤ 10) (x0 : 0 ≤ x) (x9 : x < l.length) (y0 : 0 ≤ y) (y9 : y < l.length) :
    Calls Try.prog 37 #[.int .i64 x, .int .i64 y, .pointer (some ⟨B, 0, none⟩)] W fun e w' => e = .returned (.int .i64 (cfT l x y)) ∧ Below W.heap.size W w' := by
  obtain ⟨i, rfl⟩ := Int.eq_ofNat_of_zero_le x0
  obtain ⟨j, rfl⟩ := Int.eq_ofNat_of_zero_le y0
  obtain ⟨b, off, p, rfl, hbp, Hp, hp0, hp1⟩ := ha.at_ (k := i) (by omega)
  obtain ⟨b', off', q, e, hbq, Hq, hq0, hq1⟩ := ha.at_ (k := j) (by omega)
  injection e with e
  injection e with e1 e2 e3
  subst e1 e2
  have HC := Lib.hid (fun W => cmp_any p q W (hv p (mem_at Hp.out)) (hv q (mem_at Hq.out)))
  have c0 := hk.cell 0
  simp only [List.getElem?_toArray, List.getElem?_cons_zero] at c0
  have hB := hk.lt
  have HR : Hid (cfT l (i : Int) (j : Int) = cmpT p q) := by show _ = _; unfold cfT; rw [taskOf_at Hp.out, taskOf_at Hq.out]
  obtain ⟨v, HV⟩ : ∃ v, Hid (cmpT p q = v) := ⟨_, rfl⟩
  rw [HV.out] at HC HR
  clear hv
  go_enter Try.func37, Try.ntmps37
  go_wp2_with fail
  go_region_held3 (fun w' => w'.cell? ⟨B, 0, none⟩ = some (.slice (some ⟨b, off, none⟩) l.length c) ∧ w'.cell? ⟨b, off + i * 2, none⟩ = some (.int .i64 p.off_) ∧ w'.cell? ⟨b, off + i * 2 + 1, none⟩ = some (.int .i64 p.back) ∧ w'.cell? ⟨b, off + j * 2, none⟩ = some (.int .i64 q.off_) ∧ w'.cell? ⟨b, off + j * 2 + 1, none⟩ = some (.int .i64 q.back)) (first | exact ⟨(b2.cell (p := ⟨B, 0, none⟩) hB).trans c0, (b2.cell (p := ⟨b, off + i * 2, none⟩) hbp).trans hp0, (b2.cell (p := ⟨b, off + i * 2 + 1, none⟩) hbp).trans hp1, (b2.cell (p := ⟨b, off + j * 2, none⟩) hbp).trans hq0, (b2.cell (p := ⟨b, off + j * 2 + 1, none⟩) hbp).trans hq1⟩ | go_keep) (first | (go_at_call 38; refine (HC.out _).mono ?_; rintro e w2 ⟨rfl, b2⟩))
  have HB := Lib.hid ((show Below W.heap.size W W.drew from below_draws 1).trans b2)
  go_wp2_with fail
  go_ret
  exact ⟨ret_int HR.out.symm, HB.out⟩

theorem cycS_no {l : List TaskV} (h : listV l = false) : cycS l = [] := by unfold cycS; rw [h]; rfl
theorem cycS_yes {l : List TaskV} (h : listV l = true) : cycS l = insS (cfT l) (marks l.length 0) := by unfold cycS; rw [h]; rfl
theorem insS_length (cf : Int → Int → Int) (q : List Int) : (insS cf q).length = q.length := insTo_length cf q _
theorem marks_mem {n : Nat} {x : Int} (h : x ∈ marks n 0) : 0 ≤ x ∧ x < n := by
  obtain ⟨j, hj⟩ := List.getElem?_of_mem h
  obtain ⟨h1, h2⟩ := marks_at_inv hj
  omega
theorem enters_cyc : ∀ args w, (callFunc 37 args).run Try.prog w = .ok (.enter 37 args) w := enters_of Try.func37 (by kernel_rfl) rfl

set_option maxHeartbeats 1600000 in
theorem cyo_implC (A : Option Addr) (l : List TaskV) (c : Nat) (w : World) (ha : RdTask w A l) (hl : l.length ≤ 1048576) :
    Calls Try.prog 19 #[.slice A l.length c] w (AnsC (fun s => s) (cycS l).length (cycS l) 3 w) := by
  obtain ⟨N, HN⟩ : ∃ N, Hid (cycS l = N) := ⟨_, rfl⟩
  rw [HN.out]
  have hbx := Blk.new w 25 #[.slice A l.length c]
  have ha0 := ha.alloc (.cells #[.slice A l.length c] 25)
  have bw0 : Below w.heap.size w (w.alloc (.cells #[.slice A l.length c] 25)) := (Below.refl _ _).alloc (Nat.le_refl _) _
  cases hv : listV l with
  | false =>
    have HQ := Lib.hid (lvb (lv_impl A l c _ ha0 hl) hv)
    have HO := Lib.hid (HN.out.symm.trans (cycS_no hv))
    have HB := Lib.hid bw0
    clear hv
    go_enter Try.func19, Try.ntmps19
    go_wp2_with fail
    refine HQ.out.mono ?_
    rintro e w1 ⟨rfl, b1⟩
    go_wp2_with fail
    go_ret
    rw [HO.out]
    exact ⟨none, 0, rfl, Nat.le_refl _, Own.nil_, HB.out.trans (b1.mono HB.out.size)⟩
  | true =>
    have HQ := Lib.hid (lvb (lv_impl A l c _ ha0 hl) hv)
    have HO := Lib.hid (HN.out.symm.trans (cycS_yes hv))
    obtain ⟨hve, hl5⟩ := listV_spec hv
    have HVE := Lib.hid hve
    have HB := Lib.hid bw0
    have HBX := Lib.hid hbx
    clear hv hve hbx
    go_enter Try.func19, Try.ntmps19
    go_wp2_with fail
    refine HQ.out.mono ?_
    rintro e w1 ⟨rfl, b1⟩
    have bw1 := HB.out.trans (b1.mono HB.out.size)
    have k1 := HBX.out.below b1 HBX.out.lt
    have x0 := k1.cell 0
    simp only [List.getElem?_toArray, List.getElem?_cons_zero] at x0
    have hlt1 := k1.lt
    go_wp2_with fail
    refine (indices_any l.length w1 (by omega)).mono ?_
    rintro e w2 ⟨rfl, ⟨cs, hcs, hcl⟩, b2⟩
    have k2 := k1.below b2 hlt1
    have bw2 := bw1.trans (b2.mono bw1.size)
    have ha2 := ha.below bw2
    have HS := Lib.hid (sortStable_any 37 #[.pointer (some ⟨w.heap.size, 0, none⟩)] enters_cyc (cfT l) (marks l.length 0) l.length w1.heap.size l.length cs w2 hcs hcl (fun x hx => marks_mem hx) (marks_length _ _) (by omega)
      (fun x y _ _ _ _ => cfT_bd HVE.out x y)
      (fun W x y hW h1 h2 h3 h4 => clo_cyc A l c w.heap.size x y W (ha.below (bw2.trans (hW.below (by omega) bw2.size))) (k2.chg hW (.inl hlt1)) HVE.out (by omega) h1 h2 h3 h4))
    have hz2 := bw2.size
    clear hcs hcl x0 k1 b1 b2 ha2 k2
    go_wp2_with fail
    refine HS.out.mono ?_
    rintro e w3 ⟨rfl, ⟨cs3, hk3, hc3⟩, hch⟩
    have HLN : Hid (N.length = l.length) := by show _ = _; rw [HO.out, insS_length, marks_length]
    have HF : Hid (AnsC (fun s => s) N.length N 3 w (.returned (.slice (some ⟨w1.heap.size, 0, none⟩) N.length l.length)) w3) := by
      refine ⟨_, _, rfl, (by rw [HLN.out]; exact Nat.le_refl _), Own.of_blk hk3 (by omega) hk3.lt (fun k x hx => cells_at hc3 (by rw [← HO.out]; exact hx)), bw2.trans (hch.below (by omega) bw2.size)⟩
    rw [HLN.out] at HF
    clear hk3 hc3
    go_wp2_with fail
    go_ret
    rw [HLN.out]
    exact HF.out
theorem cyo_impl (A : Option Addr) (l : List TaskV) (c : Nat) (w : World) (ha : RdTask w A l) (hl : l.length ≤ 1048576) :
    Calls Try.prog 19 #[.slice A l.length c] w (Ans (fun s => s) (cycS l).length (cycS l) 3 w) := (cyo_implC A l c w ha hl).mono fun _ _ h => h.ans
end Go.Proofs.Ytkkpegmokejfkaa
