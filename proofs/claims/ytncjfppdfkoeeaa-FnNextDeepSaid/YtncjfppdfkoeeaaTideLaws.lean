/- The laws on tides: what each draws, and that it answers true. -/
import Derived.Test.YtncjfppdfkoeeaaTideDraw
import Derived.Test.YtncjfppdfkoeeaaTide
import Derived.Test.YtncjfppdfkoeeaaAlive
namespace Go.Proofs.Ytncjfppdfkoeeaa
open Go.RowKit
set_option linter.unusedVariables false

theorem results_tmp4 {fn : Func} {t u v x : Tmp} (h : fn.results = #[.tmp t, .tmp u, .tmp v, .tmp x]) (tmps : Array Value) (P : Program) (w : World) :
    (results fn tmps).run P w = .ok (.tuple #[tmps.getD t undef, tmps.getD u undef, tmps.getD v undef, tmps.getD x undef]) w := by simp [results, h]

def TideList (w : World) (A : Option Addr) (l : List Int) (c : Nat) : Prop := l.length ≤ 13 ∧ l.length ≤ c ∧ Rd w A l
def GotTide (w : World) (e : Ending) (w' : World) : Prop := ∃ A l c, TideList w' A l c ∧ e = .returned (.slice A l.length c) ∧ Below w.heap.size w w'
def GotTideHour (w : World) (e : Ending) (w' : World) : Prop := ∃ A l c h, TideList w' A l c ∧ -1 ≤ h ∧ h ≤ 1000 ∧ e = .returned (.tuple #[.slice A l.length c, .int .i64 h]) ∧ Below w.heap.size w w'
def GotTideMost (w : World) (e : Ending) (w' : World) : Prop := ∃ A l c h m, TideList w' A l c ∧ -1 ≤ h ∧ h ≤ 1000 ∧ -20 ≤ m ∧ m ≤ 20 ∧ e = .returned (.tuple #[.slice A l.length c, .int .i64 h, .int .i64 m]) ∧ Below w.heap.size w w'
def GotTideDeep (w : World) (e : Ending) (w' : World) : Prop := ∃ A l c h m d, TideList w' A l c ∧ -1 ≤ h ∧ h ≤ 1000 ∧ -20 ≤ m ∧ m ≤ 20 ∧ 0 ≤ d ∧ d ≤ 20 ∧ e = .returned (.tuple #[.slice A l.length c, .int .i64 h, .int .i64 m, .int .i64 d]) ∧ Below w.heap.size w w'

section
variable {A : Option Addr} {l : List Int} {c : Nat}
set_option maxHeartbeats 400000 in
theorem drawTV (w : World) (ha : RdU w A l) (hc : l.length ≤ c) (hl : l.length ≤ 1048576) : Calls Try.prog 25 #[.slice A l.length c] w (GotTide w) := by
  go_enter Try.func25, Try.ntmps25
  go_wp2_with fail
  refine (open_any w ha hc hl).mono ?_
  rintro e w1 ⟨g, rfl, r1, b1⟩
  go_wp2_with fail
  refine (tide_any w.heap.size g 0 2 w1 r1 (by omega) (by omega) (by omega)).mono ?_
  rintro e w2 ⟨A2, l2, c2, rfl, t1, t2, t3, t4, d2⟩
  go_wp2_with fail
  go_ret
  exact ⟨A2, l2, c2, ⟨t1, t2, t4.rd⟩, rfl, b1.trans (d2.below b1.size)⟩
set_option maxHeartbeats 400000 in
theorem drawDA (w : World) (ha : RdU w A l) (hc : l.length ≤ c) (hl : l.length ≤ 1048576) : Calls Try.prog 27 #[.slice A l.length c] w (GotTideHour w) := by
  go_enter Try.func27, Try.ntmps27
  go_wp2_with fail
  refine (open_any w ha hc hl).mono ?_
  rintro e w1 ⟨g, rfl, r1, b1⟩
  go_wp2_with fail
  refine (tide_any w.heap.size g 0 9 w1 r1 (by omega) (by omega) (by omega)).mono ?_
  rintro e w2 ⟨A2, l2, c2, rfl, t1, t2, t3, t4, d2⟩
  have hg := r1.lt
  go_wp2_with fail
  refine (hour_any w.heap.size g _ w2 d2.rdr (by omega)).mono ?_
  rintro e w3 ⟨h, h1, h2, rfl, d3⟩
  go_wp2_with fail
  go_ret2
  exact ⟨A2, l2, c2, h, ⟨t1, t2, (t4.chg d3.chg (.inr (by omega))).rd⟩, h1, h2, rfl, b1.trans ((d2.trans d3).below b1.size)⟩
set_option maxHeartbeats 400000 in
theorem drawDM (w : World) (ha : RdU w A l) (hc : l.length ≤ c) (hl : l.length ≤ 1048576) : Calls Try.prog 29 #[.slice A l.length c] w (GotTideMost w) := by
  go_enter Try.func29, Try.ntmps29
  go_wp2_with fail
  refine (open_any w ha hc hl).mono ?_
  rintro e w1 ⟨g, rfl, r1, b1⟩
  go_wp2_with fail
  refine (tide_any w.heap.size g 0 9 w1 r1 (by omega) (by omega) (by omega)).mono ?_
  rintro e w2 ⟨A2, l2, c2, rfl, t1, t2, t3, t4, d2⟩
  have hg := r1.lt
  go_wp2_with fail
  refine (hour_any w.heap.size g _ w2 d2.rdr (by omega)).mono ?_
  rintro e w3 ⟨h, h1, h2, rfl, d3⟩
  go_wp2_with fail
  refine (pick_any w.heap.size g _ 9 w3 d3.rdr (by omega) (by omega) (by omega)).mono ?_
  rintro e w4 ⟨m, m1, m2, rfl, d4, Hs4⟩
  go_wp2_with fail
  go_ret3
  exact ⟨A2, l2, c2, h, m, ⟨t1, t2, (t4.chg (d3.trans d4).chg (.inr (by omega))).rd⟩, h1, h2, by omega, by omega, rfl, b1.trans (((d2.trans d3).trans d4).below b1.size)⟩
set_option maxHeartbeats 400000 in
theorem drawDF (w : World) (ha : RdU w A l) (hc : l.length ≤ c) (hl : l.length ≤ 1048576) : Calls Try.prog 28 #[.slice A l.length c] w (GotTideDeep w) := by
  go_enter Try.func28, Try.ntmps28
  go_wp2_with fail
  refine (open_any w ha hc hl).mono ?_
  rintro e w1 ⟨g, rfl, r1, b1⟩
  go_wp2_with fail
  refine (tide_any w.heap.size g 0 9 w1 r1 (by omega) (by omega) (by omega)).mono ?_
  rintro e w2 ⟨A2, l2, c2, rfl, t1, t2, t3, t4, d2⟩
  have hg := r1.lt
  go_wp2_with fail
  refine (hour_any w.heap.size g _ w2 d2.rdr (by omega)).mono ?_
  rintro e w3 ⟨h, h1, h2, rfl, d3⟩
  go_wp2_with fail
  refine (pick_any w.heap.size g _ 6 w3 d3.rdr (by omega) (by omega) (by omega)).mono ?_
  rintro e w4 ⟨m, m1, m2, rfl, d4, Hs4⟩
  go_wp2_with fail
  refine (pick_any w.heap.size g _ 20 w4 d4.rdr (by omega) (by omega) (by omega)).mono ?_
  rintro e w5 ⟨k, k1, k2, rfl, d5, Hs5⟩
  go_wp2_with fail
  refine (pick_any w.heap.size g _ 14 w5 d5.rdr (by omega) (by omega) (by omega)).mono ?_
  rintro e w6 ⟨d, dd1, dd2, rfl, d6, Hs6⟩
  go_wp2_with fail
  refine bodyPost_ret (results_tmp4 rfl _ _ _) rfl ?_
  exact ⟨A2, l2, c2, h, _, d, ⟨t1, t2, (t4.chg (((d3.trans d4).trans d5).trans d6).chg (.inr (by omega))).rd⟩, h1, h2, by omega, by omega, by omega, by omega, rfl, b1.trans (((((d2.trans d3).trans d4).trans d5).trans d6).below b1.size)⟩
set_option maxHeartbeats 400000 in
theorem drawND (w : World) (ha : RdU w A l) (hc : l.length ≤ c) (hl : l.length ≤ 1048576) : Calls Try.prog 30 #[.slice A l.length c] w (GotTideDeep w) := by
  go_enter Try.func30, Try.ntmps30
  go_wp2_with fail
  refine (drawDF w ha hc hl).mono ?_
  rintro e w1 ⟨A2, l2, c2, h, m, d, t, h1, h2, m1, m2, d1, d2, rfl, b1⟩
  go_wp2_with fail
  refine bodyPost_ret (results_tmp4 rfl _ _ _) rfl ?_
  exact ⟨A2, l2, c2, h, m, d, t, h1, h2, m1, m2, d1, d2, rfl, b1⟩

theorem tideV_take {l : List Int} (h : tideV l = true) : tideV (l.take 1) = true := by
  obtain ⟨a, b, c⟩ := tideV_spec h
  rw [tideV_yes (fun x hx => a x (List.mem_of_mem_take hx))]
  simp; omega
theorem Rd.cut {w : World} {A : Option Addr} {l : List Int} (h : Rd w A l) (n : Nat) : Rd w A (l.take n) := fun k x hx => h k x (by
  rw [List.getElem?_take] at hx
  split at hx
  · exact hx
  · cases hx)

set_option maxHeartbeats 1000000 in
theorem law_TideValid (w : World) (ha : RdU w A l) (hl : l.length ≤ 9223372036854775807) (hc : l.length ≤ c) :
    Calls Try.prog 8 #[.slice A l.length c] w fun e w' => e = .returned (.bool true) ∧ Below w.heap.size w w' := by
  by_cases hs : l.length ≤ 1048576
  · go_enter Try.func8, Try.ntmps8
    go_wp2_with fail
    refine (drawTV w ha hc hs).mono ?_
    rintro e w1 ⟨A2, l2, c2, ⟨t1, t2, t3⟩, rfl, b1⟩
    go_wp2_with fail
    by_cases hv : tideV l2 = true
    · have TI := Lib.hid (tv_any (tv_impl A2 l2 c2 w1 t3 (by omega)) hv)
      have TS := Lib.hid (tv_any (tv_spec A2 l2 c2 w1 t3 (by omega)) hv)
      obtain ⟨_, l1, l12⟩ := tideV_spec hv
      have h1 : (l2.take 1).length = 1 := by simp; omega
      have TC : Hid (Calls Try.prog 15 #[.slice A2 1 c2] w1 fun e w' => e = .returned (.bool true) ∧ w1 = w') := by
        have := tv_any (tv_impl A2 (l2.take 1) c2 w1 (t3.cut 1) (by omega)) (tideV_take hv)
        rw [h1] at this
        exact this
      have TN := Lib.hid (tv_any (r := false) (tv_impl none [] 0 w1 Rd.nil_ (by simp)) (by decide))
      clear hv h1
      have i2 : (1 : Int) ≤ (c2 : Int) := by omega
      refine TI.out.mono ?_
      rintro e w' ⟨rfl, rfl⟩
      go_wp2_with fail
      refine TS.out.mono ?_
      rintro e w' ⟨rfl, rfl⟩
      go_wp2_with fail
      refine TC.out.mono ?_
      rintro e w' ⟨rfl, rfl⟩
      go_wp2_with fail
      refine TN.out.mono ?_
      rintro e w' ⟨rfl, rfl⟩
      go_wp2_with fail
      refine (alive_any _).mono ?_
      rintro e w' ⟨rfl, rfl⟩
      go_wp2_with fail
      go_ret
      exact ⟨rfl, b1⟩
    · have hv' : tideV l2 = false := by simpa using hv
      have TI := Lib.hid (tv_any (tv_impl A2 l2 c2 w1 t3 (by omega)) hv')
      have TS := Lib.hid (tv_any (tv_spec A2 l2 c2 w1 t3 (by omega)) hv')
      have TN := Lib.hid (tv_any (r := false) (tv_impl none [] 0 w1 Rd.nil_ (by simp)) (by decide))
      clear hv hv'
      refine TI.out.mono ?_
      rintro e w' ⟨rfl, rfl⟩
      go_wp2_with fail
      refine TS.out.mono ?_
      rintro e w' ⟨rfl, rfl⟩
      go_wp2_with fail
      refine TN.out.mono ?_
      rintro e w' ⟨rfl, rfl⟩
      go_wp2_with fail
      refine (alive_any _).mono ?_
      rintro e w' ⟨rfl, rfl⟩
      go_wp2_with fail
      go_ret
      exact ⟨rfl, b1⟩
  · go_enter Try.func8, Try.ntmps8
    go_wp2
    go_ret
    exact ⟨rfl, Below.refl _ _⟩

theorem int_any {f : FuncId} {args : Array Value} {w : World} {x y : Int} (h : Calls Try.prog f args w fun e w' => e = .returned (.int .i64 x) ∧ w = w') (e : x = y) :
    Calls Try.prog f args w fun e w' => e = .returned (.int .i64 y) ∧ w = w' := h.mono fun _ _ ⟨he, hw⟩ => ⟨he.trans (ret_int e), hw⟩
theorem bool_any {f : FuncId} {args : Array Value} {w : World} {x y : Bool} (h : Calls Try.prog f args w fun e w' => e = .returned (.bool x) ∧ w = w') (e : x = y) :
    Calls Try.prog f args w fun e w' => e = .returned (.bool y) ∧ w = w' := h.mono fun _ _ ⟨he, hw⟩ => ⟨he.trans (ret_bool e), hw⟩

set_option maxHeartbeats 1000000 in
theorem law_DepthAt (w : World) (ha : RdU w A l) (hl : l.length ≤ 9223372036854775807) (hc : l.length ≤ c) :
    Calls Try.prog 9 #[.slice A l.length c] w fun e w' => e = .returned (.bool true) ∧ Below w.heap.size w w' := by
  by_cases hs : l.length ≤ 1048576
  · go_enter Try.func9, Try.ntmps9
    go_wp2_with fail
    refine (drawDA w ha hc hs).mono ?_
    rintro e w1 ⟨A2, l2, c2, h, ⟨t1, t2, t3⟩, h1, h2, rfl, b1⟩
    go_wp2_with fail
    by_cases hv : tideV l2 = true ∧ 0 ≤ h
    · obtain ⟨hv, h0⟩ := hv
      obtain ⟨n, rfl⟩ := Int.eq_ofNat_of_zero_le h0
      obtain ⟨x, hx⟩ : ∃ x, dAt l2 n = x := ⟨_, rfl⟩
      have hxb := dAt_bd hv n
      have hdx : depthAt l2 (n : Int) = x := by unfold depthAt; rw [if_pos ⟨hv, h0⟩]; exact hx
      have hdy : depthAt l2 ((n : Int) + (l2.length : Int)) = x := by
        unfold depthAt; rw [if_pos ⟨hv, by omega⟩, show ((n : Int) + (l2.length : Int)).toNat = n + l2.length from by omega, dAt_add]; exact hx
      have TI := Lib.hid (int_any (da_impl A2 l2 c2 n w1 t3 (by omega)) hdx)
      have TS := Lib.hid (int_any (da_spec A2 l2 c2 n w1 t3 (by omega)) hdx)
      have TJ := Lib.hid (int_any (da_impl A2 l2 c2 _ w1 t3 (by omega)) hdy)
      have x0 : 0 ≤ x := by omega
      have HX := Lib.hid hx
      have hat : n < l2.length → Hid (l2[n]? = some x) := by
        intro hn
        have : dAt l2 n = l2[n] := by unfold dAt; rw [Nat.mod_eq_of_lt hn]; simp [hn]
        show l2[n]? = some x
        rw [List.getElem?_eq_getElem hn, ← hx, this]
      clear hv hx hxb hdx hdy
      refine TI.out.mono ?_
      rintro e w' ⟨rfl, rfl⟩
      go_wp2_with fail
      refine TS.out.mono ?_
      rintro e w' ⟨rfl, rfl⟩
      go_wp2_with fail
      refine TJ.out.mono ?_
      rintro e w' ⟨rfl, rfl⟩
      by_cases hn : n < l2.length
      · have Hat := hat hn
        clear hat
        obtain ⟨b, off, y, rfl, hb, Hy, hcy⟩ := t3.at_ hn
        obtain rfl : x = y := by have := Hat.out; rw [Hy.out] at this; injection this with this; exact this.symm
        go_wp2_with fail
        go_ret
        exact ⟨rfl, b1⟩
      · clear hat
        go_wp2_with fail
        go_ret
        exact ⟨rfl, b1⟩
    · have hdx : depthAt l2 h = -1 := by unfold depthAt; rw [if_neg hv]
      have TI := Lib.hid (int_any (da_impl A2 l2 c2 h w1 t3 (by omega)) hdx)
      have TS := Lib.hid (int_any (da_spec A2 l2 c2 h w1 t3 (by omega)) hdx)
      clear hv hdx
      refine TI.out.mono ?_
      rintro e w' ⟨rfl, rfl⟩
      go_wp2_with fail
      refine TS.out.mono ?_
      rintro e w' ⟨rfl, rfl⟩
      go_wp2_with fail
      refine (alive_any _).mono ?_
      rintro e w' ⟨rfl, rfl⟩
      go_wp2_with fail
      go_ret
      exact ⟨rfl, b1⟩
  · go_enter Try.func9, Try.ntmps9
    go_wp2
    go_ret
    exact ⟨rfl, Below.refl _ _⟩

theorem deepFor_less {t : List Int} {h m d : Int} (hd : deepFor t h m d = true) : (m = 0 ∨ deepFor t h (m - 1) d = true) ∧ deepFor t h m (d - 1) = true ∧ ∀ k : Nat, (k : Int) < m → d ≤ dAt t (h.toNat + k) := by
  obtain ⟨ha, hb⟩ := deepFor_iff.1 hd
  obtain ⟨v, h0, h9, m0, m9⟩ := asked_spec ha
  refine ⟨?_, deepFor_iff.2 ⟨ha, fun k hk => by have := hb k hk; omega⟩, fun k hk => hb k (by omega)⟩
  by_cases e : m = 0
  · exact .inl e
  · exact .inr (deepFor_iff.2 ⟨asked_of v h0 h9 (by omega) (by omega), fun k hk => hb k (by omega)⟩)

set_option maxHeartbeats 1000000 in
theorem law_DeepFor (w : World) (ha : RdU w A l) (hl : l.length ≤ 9223372036854775807) (hc : l.length ≤ c) :
    Calls Try.prog 10 #[.slice A l.length c] w fun e w' => e = .returned (.bool true) ∧ Below w.heap.size w w' := by
  by_cases hs : l.length ≤ 1048576
  · go_enter Try.func10, Try.ntmps10
    go_wp2_with fail
    refine (drawDF w ha hc hs).mono ?_
    rintro e w1 ⟨A2, l2, c2, h, m, d, ⟨t1, t2, t3⟩, h1, h2, m1, m2, d1, d2, rfl, b1⟩
    go_wp2_with fail
    by_cases hd : deepFor l2 h m d = true
    · have TI := Lib.hid (bool_any (df_impl A2 l2 c2 h m d w1 t3 (by omega)) hd)
      have TS := Lib.hid (bool_any (df_spec A2 l2 c2 h m d w1 t3 (by omega)) hd)
      obtain ⟨ham, _⟩ := deepFor_iff.1 hd
      obtain ⟨v, h0, h9, m0, m9⟩ := asked_spec ham
      obtain ⟨hm, hdd, hk⟩ := deepFor_less hd
      obtain ⟨h, rfl⟩ := Int.eq_ofNat_of_zero_le h0
      obtain ⟨m, rfl⟩ := Int.eq_ofNat_of_zero_le m0
      have HK : Hid (∀ k : Nat, k < m → ∃ y, d ≤ y ∧ Calls Try.prog 18 #[.slice A2 l2.length c2, .int .i64 ((h : Int) + (k : Int))] w1 fun e w' => e = .returned (.int .i64 y) ∧ w1 = w') :=
        fun k hk' => ⟨dAt l2 (h + k), by have := hk k (by omega); simpa using this, int_any (da_impl A2 l2 c2 _ w1 t3 (by omega)) (by unfold depthAt; rw [if_pos ⟨v, by omega⟩]; congr 1)⟩
      have TM : m ≠ 0 → Hid (Calls Try.prog 20 #[.slice A2 l2.length c2, .int .i64 (h : Int), .int .i64 ((m : Int) - 1), .int .i64 d] w1 fun e w' => e = .returned (.bool true) ∧ w1 = w') :=
        fun hm0 => bool_any (df_impl A2 l2 c2 h _ d w1 t3 (by omega)) (by rcases hm with e | e; (exact absurd e (by omega)); exact e)
      have TD := Lib.hid (bool_any (df_impl A2 l2 c2 h m (d - 1) w1 t3 (by omega)) hdd)
      clear hd ham v hm hdd hk
      refine TI.out.mono ?_
      rintro e w' ⟨rfl, rfl⟩
      go_wp2_with fail
      refine TS.out.mono ?_
      rintro e w' ⟨rfl, rfl⟩
      go_wp2_with fail
      go_loop [8] (fun i => ∃ k : Nat, k ≤ m ∧ i = .int .i64 k) (fun i => m - (intOf i).toNat)
      case atStart => exact ⟨0, by omega, rfl⟩
      case round =>
        obtain ⟨k, hk, rfl⟩ := hrel
        by_cases hlt : k < m
        · obtain ⟨y, hy, hcall⟩ := HK.out k hlt
          have HC := Lib.hid hcall
          clear hcall
          go_wp2_with (go_at_call 18; refine HC.out.mono ?_; rintro e w' ⟨rfl, rfl⟩)
          exact ⟨⟨k + 1, by omega, by go_num⟩, by simp [intOf]; omega⟩
        · by_cases hm0 : m = 0
          · subst hm0
            obtain rfl : k = 0 := by omega
            go_wp2_with (go_at_call 20; refine TD.out.mono ?_; rintro e w' ⟨rfl, rfl⟩)
            go_ret
            exact ⟨rfl, b1⟩
          · have HM := TM hm0
            have hb0 : ((m : Int) == 0) = false := beq_eq_false_iff_ne.2 (by omega)
            clear TM
            go_wp2_with fail
            refine HM.out.mono ?_
            rintro e w' ⟨rfl, rfl⟩
            go_wp2_with fail
            refine TD.out.mono ?_
            rintro e w' ⟨rfl, rfl⟩
            go_wp2_with fail
            go_ret
            exact ⟨rfl, b1⟩
    · have hd' : deepFor l2 h m d = false := by simpa using hd
      have TI := Lib.hid (bool_any (df_impl A2 l2 c2 h m d w1 t3 (by omega)) hd')
      have TS := Lib.hid (bool_any (df_spec A2 l2 c2 h m d w1 t3 (by omega)) hd')
      clear hd hd'
      refine TI.out.mono ?_
      rintro e w' ⟨rfl, rfl⟩
      go_wp2_with fail
      refine TS.out.mono ?_
      rintro e w' ⟨rfl, rfl⟩
      go_wp2_with fail
      refine (alive_any _).mono ?_
      rintro e w' ⟨rfl, rfl⟩
      go_wp2_with fail
      go_ret
      exact ⟨rfl, b1⟩
  · go_enter Try.func10, Try.ntmps10
    go_wp2
    go_ret
    exact ⟨rfl, Below.refl _ _⟩

theorem deepMost_is {t : List Int} {h m : Int} (ha : asked t h m = true) (hm : 1 ≤ m) : 0 ≤ deepMost t h m ∧ deepMost t h m ≤ 99 ∧ deepFor t h m (deepMost t h m) = true ∧ deepFor t h m (deepMost t h m + 1) = false := by
  obtain ⟨v, h0, h9, m0, m9⟩ := asked_spec ha
  have e : deepMost t h m = low t h.toNat m.toNat := if_pos ⟨ha, hm⟩
  have k := deep_iff_low v h.toNat m.toNat
  refine ⟨by rw [e]; exact low_nonneg v _ _, by rw [e]; exact low_99 _ _ _, ?_, ?_⟩
  · rw [deepFor_is _ ha, k _ (by omega), e]; exact Int.le_refl _
  · rw [Bool.eq_false_iff]; intro hd
    rw [deepFor_is _ ha, k _ (by omega), e] at hd
    omega
theorem deepMost_not {t : List Int} {h m : Int} (hn : ¬ (asked t h m = true ∧ 1 ≤ m)) : deepMost t h m = -1 := if_neg hn

set_option maxHeartbeats 1000000 in
theorem law_DeepMost (w : World) (ha : RdU w A l) (hl : l.length ≤ 9223372036854775807) (hc : l.length ≤ c) :
    Calls Try.prog 11 #[.slice A l.length c] w fun e w' => e = .returned (.bool true) ∧ Below w.heap.size w w' := by
  by_cases hs : l.length ≤ 1048576
  · go_enter Try.func11, Try.ntmps11
    go_wp2_with fail
    refine (drawDM w ha hc hs).mono ?_
    rintro e w1 ⟨A2, l2, c2, h, m, ⟨t1, t2, t3⟩, h1, h2, m1, m2, rfl, b1⟩
    go_wp2_with fail
    by_cases hk : asked l2 h m = true ∧ 1 ≤ m
    · obtain ⟨x, hx⟩ : ∃ x, deepMost l2 h m = x := ⟨_, rfl⟩
      have hp := deepMost_is hk.1 hk.2
      rw [hx] at hp
      obtain ⟨x0, x9, hy, hn⟩ := hp
      have TI := Lib.hid (int_any (dm_impl A2 l2 c2 h m w1 t3 (by omega)) hx)
      have TS := Lib.hid (int_any (dm_spec A2 l2 c2 h m w1 t3 (by omega)) hx)
      have TD := Lib.hid (bool_any (df_impl A2 l2 c2 h m x w1 t3 (by omega)) hy)
      have TE := Lib.hid (bool_any (df_impl A2 l2 c2 h m (x + 1) w1 t3 (by omega)) hn)
      clear hx hk hy hn
      refine TI.out.mono ?_
      rintro e w' ⟨rfl, rfl⟩
      go_wp2_with fail
      refine TS.out.mono ?_
      rintro e w' ⟨rfl, rfl⟩
      go_wp2_with fail
      refine TD.out.mono ?_
      rintro e w' ⟨rfl, rfl⟩
      go_wp2_with fail
      refine TE.out.mono ?_
      rintro e w' ⟨rfl, rfl⟩
      go_wp2_with fail
      go_ret
      exact ⟨rfl, b1⟩
    · have hx := deepMost_not hk
      have TI := Lib.hid (int_any (dm_impl A2 l2 c2 h m w1 t3 (by omega)) hx)
      have TS := Lib.hid (int_any (dm_spec A2 l2 c2 h m w1 t3 (by omega)) hx)
      clear hk hx
      refine TI.out.mono ?_
      rintro e w' ⟨rfl, rfl⟩
      go_wp2_with fail
      refine TS.out.mono ?_
      rintro e w' ⟨rfl, rfl⟩
      go_wp2_with fail
      refine (alive_any _).mono ?_
      rintro e w' ⟨rfl, rfl⟩
      go_wp2_with fail
      go_ret
      exact ⟨rfl, b1⟩
  · go_enter Try.func11, Try.ntmps11
    go_wp2
    go_ret
    exact ⟨rfl, Below.refl _ _⟩

theorem isNext_out {t : List Int} {h m d x : Int} (hx : IsNext t h m d x) (hb : ¬ (tideV t = true ∧ 0 ≤ h ∧ h ≤ 999)) : x = -1 := by
  rcases hx with ⟨e, _⟩ | ⟨a, _⟩
  · exact e
  · obtain ⟨v, h0, h9, _⟩ := asked_spec a; exact absurd ⟨v, h0, h9⟩ hb
theorem isNext_in {t : List Int} {h m d x : Int} (hx : IsNext t h m d x) (v : tideV t = true) (h0 : 0 ≤ h) (h9 : h ≤ 999) :
    (∀ k : Int, h ≤ k → k ≤ 999 → (x < 0 ∨ k < x) → deepFor t k m d = false) ∧ (x = -1 ∨ (h ≤ x ∧ x ≤ 999 ∧ deepFor t x m d = true)) := by
  rcases hx with ⟨rfl, hn⟩ | ⟨a, h1, h2, h3, h4⟩
  · refine ⟨fun k k1 k2 _ => ?_, .inl rfl⟩
    by_cases a : asked t h m = true
    · exact hn k k1 k2 a
    · refine deepFor_not d ?_
      rw [Bool.eq_false_iff]
      intro b
      obtain ⟨_, _, _, m0, m9⟩ := asked_spec b
      exact a (asked_of v h0 h9 m0 m9)
  · exact ⟨fun k k1 k2 hk => h4 k k1 (by omega), .inr ⟨h1, h2, h3⟩⟩

set_option maxHeartbeats 1000000 in
theorem law_NextDeep (w : World) (ha : RdU w A l) (hl : l.length ≤ 9223372036854775807) (hc : l.length ≤ c) :
    Calls Try.prog 12 #[.slice A l.length c] w fun e w' => e = .returned (.bool true) ∧ Below w.heap.size w w' := by
  by_cases hs : l.length ≤ 1048576
  · go_enter Try.func12, Try.ntmps12
    go_wp2_with fail
    refine (drawND w ha hc hs).mono ?_
    rintro e w1 ⟨A2, l2, c2, h, m, d, ⟨t1, t2, t3⟩, h1, h2, m1, m2, d1, d2, rfl, b1⟩
    go_wp2_with fail
    have TI := Lib.hid (nd_impl A2 l2 c2 h m d w1 t3 (by omega))
    have TS := Lib.hid (nd_spec A2 l2 c2 h m d w1 t3 (by omega))
    have TV := Lib.hid (tv_spec A2 l2 c2 w1 t3 (by omega))
    refine TI.out.mono ?_
    rintro e w' ⟨⟨x, Hx, rfl⟩, rfl⟩
    go_wp2_with fail
    refine TS.out.mono ?_
    rintro e w' ⟨⟨y, Hy, rfl⟩, rfl⟩
    obtain rfl := isNext_unique Hx Hy
    clear Hy
    have HX := Lib.hid Hx
    clear Hx
    go_wp2_with fail
    by_cases hv : tideV l2 = true
    · have TW := Lib.hid (bool_any TV.out hv)
      have HV := Lib.hid hv
      clear hv TV
      refine TW.out.mono ?_
      rintro e w' ⟨rfl, rfl⟩
      by_cases hh : 0 ≤ h ∧ h ≤ 999
      · obtain ⟨h0, h9⟩ := hh
        obtain ⟨P, Q⟩ := isNext_in HX.out HV.out h0 h9
        have HP := Lib.hid P
        clear P
        obtain ⟨h, rfl⟩ := Int.eq_ofNat_of_zero_le h0
        rcases Q with rfl | ⟨q1, q2, q3⟩
        · go_wp2_with fail
          go_loop [8] (fun i => ∃ k : Nat, h ≤ k ∧ k ≤ 1000 ∧ i = .int .i64 k) (fun i => 1000 - (intOf i).toNat)
          case atStart => exact ⟨h, by omega, by omega, rfl⟩
          case round =>
            obtain ⟨k, hk, hk2, rfl⟩ := hrel
            by_cases hlt : k < 1000
            · have TD := Lib.hid (bool_any (df_impl A2 l2 c2 k m d w1 t3 (by omega)) (HP.out k (by omega) (by omega) (.inl (by omega))))
              go_wp2_with (go_at_call 20; refine TD.out.mono ?_; rintro e w' ⟨rfl, rfl⟩)
              exact ⟨⟨k + 1, by omega, by omega, by go_num⟩, by simp [intOf]; omega⟩
            · go_wp2_with fail
              go_ret
              exact ⟨rfl, b1⟩
        · have TX := Lib.hid (bool_any (df_impl A2 l2 c2 x m d w1 t3 (by omega)) q3)
          clear q3
          obtain ⟨x, rfl⟩ := Int.eq_ofNat_of_zero_le (by omega : 0 ≤ x)
          have hb1 : ((x : Int) == -1) = false := beq_eq_false_iff_ne.2 (by omega)
          go_wp2_with fail
          go_loop [8] (fun i => ∃ k : Nat, h ≤ k ∧ k ≤ x ∧ i = .int .i64 k) (fun i => 1000 - (intOf i).toNat)
          case atStart => exact ⟨h, by omega, by omega, rfl⟩
          case round =>
            obtain ⟨k, hk, hk2, rfl⟩ := hrel
            by_cases hlt : k < x
            · have TD := Lib.hid (bool_any (df_impl A2 l2 c2 k m d w1 t3 (by omega)) (HP.out k (by omega) (by omega) (.inr (by omega))))
              go_wp2_with (go_at_call 20; refine TD.out.mono ?_; rintro e w' ⟨rfl, rfl⟩)
              exact ⟨⟨k + 1, by omega, by omega, by go_num⟩, by simp [intOf]; omega⟩
            · go_wp2_with (go_at_call 20; refine TX.out.mono ?_; rintro e w' ⟨rfl, rfl⟩)
              go_ret
              exact ⟨rfl, b1⟩
      · obtain rfl := isNext_out HX.out (fun a => hh a.2)
        rcases (by omega : h < 0 ∨ 999 < h) with hh | hh
        all_goals
          go_wp2_with fail
          refine (alive_any _).mono ?_
          rintro e w' ⟨rfl, rfl⟩
          go_wp2_with fail
          go_ret
          exact ⟨rfl, b1⟩
    · have hv' : tideV l2 = false := by simpa using hv
      have TW := Lib.hid (bool_any TV.out hv')
      obtain rfl := isNext_out HX.out (fun a => hv a.1)
      clear hv hv' TV
      refine TW.out.mono ?_
      rintro e w' ⟨rfl, rfl⟩
      go_wp2_with fail
      refine (alive_any _).mono ?_
      rintro e w' ⟨rfl, rfl⟩
      go_wp2_with fail
      go_ret
      exact ⟨rfl, b1⟩
  · go_enter Try.func12, Try.ntmps12
    go_wp2
    go_ret
    exact ⟨rfl, Below.refl _ _⟩
end
end Go.Proofs.Ytncjfppdfkoeeaa
