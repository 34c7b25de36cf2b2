/- BestWait: the reference's walk. -/
import Derived.Test.YtjbocijckoaekaaWait
import Derived.Test.YtjbocijckoaekaaPerm
import Derived.Test.YtjbocijckoaekaaWaitLaw
import Derived.Test.YtjbocijckoaekaaDraw
namespace Go.Proofs.Ytjbocijckoaekaa
open Go.RowKit
set_option linter.unusedVariables false
set_option linter.unusedSimpArgs false

/-- The best of all orders that begin with some indices. -/
def bestR (l : List ShipV) (f : Nat) (o : List Int) : List Int := (bestOf (waitS l) (ext l.length f o)).getD []
def bestS (l : List ShipV) : List Int := if listV l = true then bestR l l.length [] else []
theorem bestS_no {l : List ShipV} (h : listV l = false) : bestS l = [] := by unfold bestS; rw [h]; rfl
theorem bestS_yes {l : List ShipV} (h : listV l = true) : bestS l = bestR l l.length [] := by unfold bestS; rw [h]; rfl
theorem best_good {l : List ShipV} {f : Nat} {o : List Int} (h : good l.length o) (hn : o.length + f = l.length) : ∃ b, bestOf (waitS l) (ext l.length f o) = some b ∧ good l.length b ∧ b.length = l.length ∧ ∀ x ∈ ext l.length f o, waitS l b ≤ waitS l x := by
  obtain ⟨b, h1, h2, h3⟩ := bestOf_least (waitS l) (ext_ne f o h hn)
  obtain ⟨h4, h5⟩ := ext_good f o h hn b h2
  exact ⟨b, h1, h4, h5, h3⟩
theorem bestS_spec {l : List ShipV} (h : listV l = true) : permV (bestS l) l.length = true ∧ ∀ o, permV o l.length = true → waitS l (bestS l) ≤ waitS l o := by
  obtain ⟨b, h1, h2, h3, h4⟩ := best_good (l := l) (f := l.length) (o := []) (good_nil _) (by simp)
  rw [bestS_yes h]
  unfold bestR
  rw [h1]
  exact ⟨perm_of_good h2 h3, fun o ho => h4 o (orders_mem.2 ho)⟩
theorem bestS_len {l : List ShipV} (h : listV l = true) : (bestS l).length = l.length := (permV_spec (bestS_spec h).1).2
theorem bestS_short (l : List ShipV) : (bestS l).length ≤ 5 := by
  cases h : listV l with
  | false => rw [bestS_no h]; simp
  | true => rw [bestS_len h]; exact (listV_spec h).2
/-- Each of the first k that could follow has been tried. -/
theorem bestTo_good {l : List ShipV} {f : Nat} {o : List Int} {k : Nat} {a : List Int} (h : good l.length o) (hn : o.length + (f + 1) = l.length) (hk : k ≤ l.length) (ha : bestTo (waitS l) l.length f o k = some a) : a.length = l.length := by
  have hs : ∀ x ∈ (((marks l.length 0).take k).flatMap fun j => if o.contains j then [] else ext l.length f (o ++ [j])), x ∈ ext l.length (f + 1) o := by
    intro x hx
    simp only [List.mem_flatMap] at hx
    obtain ⟨j, hj, hx⟩ := hx
    simp only [ext, List.mem_flatMap]
    exact ⟨j, List.mem_of_mem_take hj, hx⟩
  unfold bestTo at ha
  by_cases he : (((marks l.length 0).take k).flatMap fun j => if o.contains j then [] else ext l.length f (o ++ [j])) = []
  · rw [he] at ha; simp [bestOf] at ha
  · obtain ⟨b, h1, h2, _⟩ := bestOf_least (waitS l) he
    rw [h1] at ha
    injection ha with ha
    subst ha
    exact (ext_good (f + 1) o h hn b (hs b h2)).2
def BestPost (base : Nat) (R : List Int) (w : World) (e : Ending) (w' : World) : Prop :=
  ∃ A' c', e = .returned (.slice A' R.length c') ∧ R.length ≤ c' ∧ Own 3 w' base w'.heap.size A' R ∧ Below w.heap.size w w'
theorem int_s {f : FuncId} {args : Array Value} {w : World} {v x : Int} (h : Calls Try.prog f args w fun e w' => e = .returned (.int .i64 v) ∧ Below w.heap.size w w') (e : v = x) :
    Calls Try.prog f args w fun e w' => e = .returned (.int .i64 x) ∧ Below w.heap.size w w' := by rw [← e]; exact h
theorem row_atS {w : World} {base n size : Nat} {t : TypeId} {v : Value} {xs : List Value} (h : w.ownsRow base t size v n xs) (hn : 0 < n) : ∃ g c, v = .slice (some ⟨g, 0, none⟩) n c ∧ n ≤ c ∧ base ≤ g := by
  rcases h.2 with ⟨rfl, h0⟩ | ⟨g, cap, cur, rfl, hb, _, h1, _⟩
  · omega
  · exact ⟨g, cap, rfl, h1, hb⟩
set_option maxHeartbeats 6400000 in
theorem l17_any (l : List ShipV) (hv : listV l = true) (base : Nat) : ∀ (f : Nat) (o : List Int) (m : Nat) (A : Option Addr) (c gB d : Nat) (w : World), good l.length o → o.length + f = l.length → o.length = m → RdShip w A l → Own 3 w base w.heap.size (some ⟨gB, 0, none⟩) o → m ≤ d → base ≤ w.heap.size →
    Calls Try.prog 44 #[.slice A l.length c, .slice (some ⟨gB, 0, none⟩) m d] w (BestPost base (bestR l f o) w) := by
  intro f
  induction f with
  | zero =>
    intro o m A c gB d w hg hf hm ha hb hd hbase
    have hR : bestR l 0 o = o := rfl
    rw [hR]
    have t0 : ((m : Int) == (l.length : Int)) = true := beq_iff_eq.2 (by omega)
    have HF : Hid (BestPost base o w (.returned (.slice (some ⟨gB, 0, none⟩) m d)) w) := by
      show BestPost _ _ _ _ _
      subst hm
      exact ⟨_, _, rfl, hd, hb, Below.refl _ _⟩
    clear hR hb
    go_enter Try.func44, Try.ntmps44
    go_wp2_with fail
    go_ret
    exact HF.out
  | succ f ih =>
    intro o m A c gB d w hg hf hm ha hb hd hbase
    obtain ⟨i0, hi, hz0, hz1, hz2⟩ := info_parts info_int
    have hn5 : l.length ≤ 5 := (listV_spec hv).2
    have hpos : 0 < l.length := by omega
    have t0 : ((m : Int) == (l.length : Int)) = false := beq_eq_false_iff_ne.2 (by omega)
    have HG := Lib.hid hg
    have HF := Lib.hid hf
    have HM := Lib.hid hm
    have HIH := Lib.hid ih
    have hm5 : m < l.length := by omega
    have m0 : 0 ≤ maxLen := by unfold maxLen; omega
    have HOL : Hid ((o.map (Value.int .i64)).length = m * 1) := by show _ = _; rw [List.length_map, hm]; omega
    clear hg hf hm ih hv
    go_enter Try.func44, Try.ntmps44
    go_wp2_with fail
    go_loopw [5, 6] (fun v i wr => ∃ (k : Nat) (Ab : Option Addr) (cb : Nat) (X : List Int), k ≤ l.length ∧ i = .int .i64 k ∧ v = .slice Ab X.length cb ∧ X.length ≤ cb ∧ Hid ((bestTo (waitS l) l.length f o k).getD [] = X) ∧ Own 3 wr base wr.heap.size Ab X ∧ Below w.heap.size w wr) (fun _ i _ => l.length - (intOf i).toNat)
    case atStart => exact ⟨0, _, _, [], by omega, rfl, rfl, Nat.le_refl _, (by show _ = _; rw [bestTo_0]; rfl), Own.nil_, (Below.refl _ _).alloc (Nat.le_refl _) _⟩
    case round =>
      obtain ⟨k, Ab, cb, X, hk, rfl, rfl, hcb, HX, hX, hbw⟩ := hrel
      have hwz := hbw.size
      by_cases hlt : k < l.length
      · have hbo := hb.below hbw (Nat.le_refl _)
        have rb := hbo.rd
        have hak := ha.below hbw
        obtain ⟨r, HR⟩ : ∃ r, Hid (hasB o o.length (k : Int) = r) := ⟨_, rfl⟩
        have HHS := Lib.hid (bool_is (has_spec (some ⟨gB, 0, none⟩) o o.length d (k : Int) wr rb (Nat.le_refl _) (by have := HM.out; omega)) HR.out)
        rw [HM.out] at HHS
        have HIN : Hid (o.contains (k : Int) = r) := by
          show _ = _
          rw [← HR.out]; unfold hasB
          rw [List.take_of_length_le (Nat.le_refl _)]
        cases r with
        | true =>
          have HN := Lib.hid (bestTo_has (waitS l) (f := f) hlt HIN.out)
          go_wp2_with fail
          refine HHS.out.mono ?_
          rintro e w' ⟨rfl, rfl⟩
          go_wp2_with fail
          exact ⟨⟨k + 1, Ab, cb, X, by omega, by go_num, rfl, hcb, (by show _ = _; rw [HN.out]; exact HX.out), hX, hbw⟩, by simp [intOf]; omega⟩
        | false =>
          have hni : ¬ (k : Int) ∈ o := fun h => by have := List.contains_iff_mem.2 h; rw [HIN.out] at this; cases this
          have HN := Lib.hid (bestTo_new (waitS l) (f := f) hlt HIN.out)
          have HG2 := Lib.hid (good_more HG.out hni (by omega : (0 : Int) ≤ (k : Int)) (by omega : (k : Int) < (l.length : Int)))
          have HF2 : Hid ((o ++ [(k : Int)]).length + f = l.length) := by show _ = _; rw [List.length_append]; have := HF.out; simp; omega
          obtain ⟨bx, hbx1, hbx2, hbx3, _⟩ := best_good HG2.out HF2.out
          have HBX : Hid (bestR l f (o ++ [(k : Int)]) = bx) := by show _ = _; unfold bestR; rw [hbx1]; rfl
          rw [hbx1] at HN
          have HBL := Lib.hid hbx3
          clear hni hbx1 hbx2 hbx3
          go_wp2_with fail
          refine HHS.out.mono ?_
          rintro e w' ⟨rfl, rfl⟩
          go_wp2_with (at_builtin; refine wpList_append_own _ rfl _ _ 29 rfl wr.heap.size 3 i0 (.int .i64 0) 1 8 Try.underlying29 hi hz0 hz1 hz2 rfl (by decide) _ 0 [] rfl (World.ownsRow_lit wr #[] 0 (Nat.le_refl _) m0 rfl) ⟨gB, 0, none⟩ m d (o.map (Value.int .i64)) rfl HOL.out (rb.news (cell_alloc_old _)) (ints_oneCell .i64 o) ?c1 ?c2 ?c3 ?_)
          case c1 => unfold maxLen; omega
          case c2 => omega
          case c3 => simp
          intro v3 w3 hown3 hgrow3 _
          try simp only [Nat.zero_add, List.nil_append] at hown3
          have B3 := ((Below.refl wr.heap.size wr).alloc (Nat.le_refl _) (.cells #[] 3)).grown hgrow3 (by simp) (fun k e => by simp [Value.ownBlock] at e; omega)
          have hbk := hown3.lt
          have hz3 := B3.size
          have hone : ∀ u ∈ [Value.int .i64 (k : Int)], u.oneCell' = true := fun u hu => by rw [List.mem_singleton.1 hu]; rfl
          clear hgrow3
          go_wp2_with (at_builtin; refine wpList_append_own _ rfl _ _ 29 rfl wr.heap.size 3 i0 (.int .i64 0) 1 8 Try.underlying29 hi hz0 hz1 hz2 rfl (by decide) _ _ _ rfl (hown3.alloc _) ⟨w3.heap.size, 0, none⟩ 1 1 [.int .i64 k] rfl rfl (cell_one_new _ _ _) hone ?c4 ?c5 ?c6 ?_)
          case c4 => unfold maxLen; omega
          case c5 => omega
          case c6 => simp; omega
          intro v4 w4 hown4 hgrow4 _
          have B4 := (B3.alloc hz3 (.cells #[.int .i64 (k : Int)] 3)).grown hgrow4 (by simp; omega) (fun k e => (hbk k e).1)
          have hown5 : w4.ownsRow wr.heap.size 3 1 v4 (m + 1) ((o ++ [(k : Int)]).map (Value.int .i64)) := by simpa using hown4
          obtain ⟨g4, c4, rfl, hc4, hg4⟩ := row_atS hown5 (by omega)
          have B5 := hbw.trans (B4.mono hwz)
          have OW4 : Own 3 w4 base w4.heap.size (some ⟨g4, 0, none⟩) (o ++ [(k : Int)]) := (Own.of_row hown5 (Nat.le_refl _)).wide (by omega) (Nat.le_refl _)
          have HCALL := Lib.hid (HIH.out (o ++ [(k : Int)]) (m + 1) A c g4 c4 w4 HG2.out HF2.out (by rw [List.length_append, HM.out]; rfl) (hak.below B4) OW4 hc4 (by have := B4.size; omega))
          rw [HBX.out] at HCALL
          have hX4 := hX.below B4 (Nat.le_refl _)
          have hz4 := B4.size
          clear hown3 hown4 hown5 hgrow4 B3 hX OW4
          go_wp2_with fail
          refine HCALL.out.mono ?_
          rintro e w5 ⟨A5, c5, rfl, hc5, ox, b5⟩
          have hX5 := hX4.below b5 hz4
          have hz5 := b5.size
          have bw5 := B5.trans (b5.mono (by omega))
          have hak5 := ha.below bw5
          have rx := ox.rd
          have rX := hX5.rd
          clear hX4 B4 B5 b5
          obtain ⟨O, HO⟩ : ∃ O, Hid (bestTo (waitS l) l.length f o k = O) := ⟨_, rfl⟩
          rw [HO.out] at HX HN
          cases O with
          | none =>
            have HX0 : Hid (X = []) := by show _ = _; rw [← HX.out]; rfl
            have t1 : ((X.length : Int) == 0) = true := by rw [HX0.out]; rfl
            go_wp2_with fail
            exact ⟨⟨k + 1, A5, c5, bx, by omega, by go_num, rfl, hc5, (by show _ = _; rw [HN.out]; rfl), ox, bw5⟩, by simp [intOf]; omega⟩
          | some a =>
            have HXA : Hid (a = X) := by show _ = _; rw [← HX.out]; rfl
            have HXL : Hid (X.length = l.length) := by show _ = _; rw [← HXA.out]; exact bestTo_good HG.out HF.out (Nat.le_of_lt hlt) HO.out
            have t1 : ((X.length : Int) == 0) = false := beq_eq_false_iff_ne.2 (by have := HXL.out; omega)
            have HW1 := Lib.hid (fun W (h1 : RdShip W A l) (h2 : Rd W A5 bx) => wo_spec A A5 l bx c c5 W h1 h2 (by omega) (by have := HBL.out; omega) hc5)
            have HW2 := Lib.hid (fun W (h1 : RdShip W A l) (h2 : Rd W Ab X) => wo_spec A Ab l X c cb W h1 h2 (by omega) (by have := HXL.out; omega) hcb)
            obtain ⟨q1, HQ1⟩ : ∃ q1, Hid (waitS l bx = q1) := ⟨_, rfl⟩
            obtain ⟨q2, HQ2⟩ : ∃ q2, Hid (waitS l X = q2) := ⟨_, rfl⟩
            rw [HQ1.out] at HW1
            rw [HQ2.out] at HW2
            go_wp2_with fail
            refine (HW1.out w5 hak5 rx).mono ?_
            rintro e w6 ⟨rfl, b6⟩
            have hak6 := hak5.below b6
            have rX6 := rX.below b6
            have hX6 := hX5.below b6 (by omega)
            have ox6 := ox.below b6 (Nat.le_refl _)
            have bw6 := bw5.trans (b6.mono (by omega))
            clear rx rX hX5 ox bw5 hak5
            go_wp2_with fail
            refine (HW2.out w6 hak6 rX6).mono ?_
            rintro e w7 ⟨rfl, b7⟩
            have hz6 := b6.size
            have hz7 := b7.size
            have hX7 := (hX6.below b7 (by omega)).wide (Nat.le_refl _) (show wr.heap.size ≤ w7.heap.size by omega)
            have ox7 := (ox6.below b7 (by omega)).wide (Nat.le_refl _) (show w5.heap.size ≤ w7.heap.size by omega)
            have bw7 := bw6.trans (b7.mono (by omega))
            clear b6 b7 hX6 ox6 bw6 hak6 rX6
            by_cases hq : q1 < q2
            · have tq : decide (q1 < q2) = true := decide_eq_true hq
              have HNX : Hid ((bestTo (waitS l) l.length f o (k + 1)).getD [] = bx) := by
                show _ = _
                rw [HN.out, HXA.out]
                simp only [comb2, better, HQ1.out, HQ2.out, hq, if_true]
                rfl
              clear hq
              go_wp2_with fail
              exact ⟨⟨k + 1, A5, c5, bx, by omega, by go_num, rfl, hc5, HNX.out, ox7, bw7⟩, by simp [intOf]; omega⟩
            · have tq : decide (q1 < q2) = false := decide_eq_false hq
              have HNX : Hid ((bestTo (waitS l) l.length f o (k + 1)).getD [] = X) := by
                show _ = _
                rw [HN.out, HXA.out]
                simp only [comb2, better, HQ1.out, HQ2.out, hq, if_false]
                rfl
              clear hq
              go_wp2_with fail
              exact ⟨⟨k + 1, Ab, cb, X, by omega, by go_num, rfl, hcb, HNX.out, hX7, bw7⟩, by simp [intOf]; omega⟩
      · have HE : Hid (bestR l (f + 1) o = X) := by
          show _ = _
          have h := HX.out
          rw [show k = l.length from by omega] at h
          unfold bestR
          rw [← bestTo_all]
          exact h
        go_wp2_with fail
        go_ret
        rw [HE.out]
        exact ⟨Ab, cb, rfl, hcb, hX, hbw⟩
set_option maxHeartbeats 800000 in
theorem bw_specC (A : Option Addr) (l : List ShipV) (c : Nat) (w : World) (ha : RdShip w A l) (hl : l.length ≤ 1048576) :
    Calls Try.prog 27 #[.slice A l.length c] w (AnsC (fun s => s) (bestS l).length (bestS l) 3 w) := by
  obtain ⟨N, HN⟩ : ∃ N, Hid (bestS l = N) := ⟨_, rfl⟩
  rw [HN.out]
  cases hv : listV l with
  | false =>
    have HQ := Lib.hid (bool_is (lv_spec A l c _ ha hl) hv)
    have HO := Lib.hid (HN.out.symm.trans (bestS_no hv))
    clear hv
    go_enter Try.func27, Try.ntmps27
    go_wp2_with fail
    refine HQ.out.mono ?_
    rintro e w' ⟨rfl, rfl⟩
    go_wp2_with fail
    go_ret
    rw [HO.out]
    exact ⟨_, _, rfl, Nat.le_refl _, Own.nil_, (Below.refl _ _).alloc (Nat.le_refl _) _⟩
  | true =>
    have HQ := Lib.hid (bool_is (lv_spec A l c _ ha hl) hv)
    have bw0 : Below w.heap.size w (w.alloc (.cells #[] 3)) := (Below.refl _ _).alloc (Nat.le_refl _) _
    have HC := Lib.hid (l17_any l hv w.heap.size l.length [] 0 A c w.heap.size 0 (w.alloc (.cells #[] 3)) (good_nil _) (by simp) rfl (ha.below bw0) Own.nil_ (Nat.le_refl _) bw0.size)
    rw [← bestS_yes hv, HN.out] at HC
    have HB := Lib.hid bw0
    clear hv bw0
    go_enter Try.func27, Try.ntmps27
    go_wp2_with fail
    refine HQ.out.mono ?_
    rintro e w' ⟨rfl, rfl⟩
    go_wp2_with fail
    refine HC.out.mono ?_
    rintro e w2 ⟨A2, c2, rfl, hc2, o2, b2⟩
    have HB2 := Lib.hid (HB.out.trans (b2.mono HB.out.size))
    go_wp2_with fail
    go_ret
    exact ⟨A2, c2, rfl, hc2, o2, HB2.out⟩
end Go.Proofs.Ytjbocijckoaekaa
