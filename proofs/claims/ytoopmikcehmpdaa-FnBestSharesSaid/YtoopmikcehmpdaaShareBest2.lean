/- The best division, walked through the impl and through the reference model. -/
import Derived.Test.YtoopmikcehmpdaaShareNext
import Derived.Test.YtoopmikcehmpdaaSharePlain
import Derived.Test.YtoopmikcehmpdaaCloneInt
import Derived.Deep.LoopGhost
import Derived.Laws.OwnMore
namespace Go.Proofs.Ytoopmikcehmpdaa
open Go.RowKit
set_option linter.unusedVariables false
set_option linter.unusedSimpArgs false

def bsOk (l : List Int) (cr : Int) : Bool := workV l && decide (1 ≤ cr ∧ cr ≤ 4)
def bsVal (l : List Int) (cr : Int) : List Int := if bsOk l cr = true then (bestS l (cr - 1).toNat).getD [] else []
theorem bsVal_no {l : List Int} {cr : Int} (h : bsOk l cr = false) : bsVal l cr = [] := by unfold bsVal; rw [h]; rfl
theorem bsVal_yes {l b : List Int} {m : Nat} (hv : workV l = true) (hm : m ≤ 3) (hb : bestS l m = some b) : bsVal l ((m : Int) + 1) = b ∧ bsOk l ((m : Int) + 1) = true := by
  have h : bsOk l ((m : Int) + 1) = true := by unfold bsOk; rw [hv, decide_eq_true (by omega)]; rfl
  refine ⟨?_, h⟩
  unfold bsVal
  rw [if_pos h, show ((m : Int) + 1 - 1).toNat = m from by omega, hb]
  rfl

def BestAt (f : List Int → Int) (E : List (List Int)) (k : Nat) (q : List Int) (lo : Nat) (b t : Value) (wr : World) : Prop :=
  ∃ (A : Option Addr) (c : Nat) (x : List Int), b = .slice A x.length c ∧ t = .int .i64 (f x) ∧ firstMin f (E.take k) = some x ∧ Own 3 wr lo wr.heap.size A x
theorem BestAt.chg {f : List Int → Int} {E : List (List Int)} {k lo a b : Nat} {q : List Int} {v t : Value} {w w' : World} (h : BestAt f E k q lo v t w) (hc : Chg a b w w') (hd : b ≤ lo) : BestAt f E k q lo v t w' := by
  obtain ⟨A, c, x, h1, h2, h3, h4⟩ := h
  exact ⟨A, c, x, h1, h2, h3, (h4.chg hc (.inr hd)).wide (Nat.le_refl _) hc.size⟩
theorem BestAt.below {f : List Int → Int} {E : List (List Int)} {k lo : Nat} {q : List Int} {v t : Value} {w w' : World} (h : BestAt f E k q lo v t w) (hc : Below w.heap.size w w') : BestAt f E k q lo v t w' := by
  obtain ⟨A, c, x, h1, h2, h3, h4⟩ := h
  exact ⟨A, c, x, h1, h2, h3, (h4.below hc (Nat.le_refl _)).wide (Nat.le_refl _) hc.size⟩

theorem mem_firstMin {f : List Int → Int} {E : List (List Int)} {k : Nat} {x : List Int} (h : firstMin f (E.take k) = some x) : x ∈ E := List.mem_of_mem_take (firstMin_mem h).1
theorem best_first {f : List Int → Int} {E : List (List Int)} {k lo : Nat} {q : List Int} {A : Option Addr} {c : Nat} {w : World} (hq : E[k]? = some q) (hk : k = 0) (ho : Own 3 w lo w.heap.size A q) : BestAt f E (k + 1) q lo (.slice A q.length c) (.int .i64 (f q)) w :=
  ⟨A, c, q, rfl, rfl, by rw [firstMin_next hq, hk]; rfl, ho⟩
theorem best_less {f : List Int → Int} {E : List (List Int)} {k lo : Nat} {q x : List Int} {A : Option Addr} {c : Nat} {w : World} (hq : E[k]? = some q) (hx : firstMin f (E.take k) = some x) (hlt : f q < f x) (ho : Own 3 w lo w.heap.size A q) : BestAt f E (k + 1) q lo (.slice A q.length c) (.int .i64 (f q)) w :=
  ⟨A, c, q, rfl, rfl, by rw [firstMin_next hq, hx]; simp [upd, hlt], ho⟩
theorem best_keep {f : List Int → Int} {E : List (List Int)} {k lo : Nat} {q x : List Int} {A : Option Addr} {c : Nat} {w : World} (hq : E[k]? = some q) (hx : firstMin f (E.take k) = some x) (hlt : ¬ f q < f x) (ho : Own 3 w lo w.heap.size A x) : BestAt f E (k + 1) q lo (.slice A x.length c) (.int .i64 (f x)) w :=
  ⟨A, c, x, rfl, rfl, by rw [firstMin_next hq, hx]; simp [upd, hlt], ho⟩
theorem best_done {f : List Int → Int} {E : List (List Int)} {k w0 m : Nat} {q l : List Int} {b t : Value} {w w' : World} (hn : E[k + 1]? = none) (hq : E[k]? = some q) (hy : ∀ x, firstMin f E = some x → bsVal l ((m : Int) + 1) = x ∧ bsOk l ((m : Int) + 1) = true) (h : BestAt f E (k + 1) q (w0 + 1) b t w') (hb : Below w.heap.size w w') (hw : w0 = w.heap.size) :
    Ans (fun s => .tuple #[s, .bool (bsOk l ((m : Int) + 1))]) (bsVal l ((m : Int) + 1)).length (bsVal l ((m : Int) + 1)) 3 w (.returned (.tuple #[b, .bool true])) w' := by
  obtain ⟨A, c, x, rfl, rfl, hx, ho⟩ := h
  have h1 := List.getElem?_eq_none_iff.1 hn
  rw [List.take_of_length_le h1] at hx
  obtain ⟨e1, e2⟩ := hy x hx
  rw [e1, e2]
  exact ⟨A, c, rfl, ho.wide (by omega) (Nat.le_refl _), hb⟩

set_option maxHeartbeats 1600000 in
theorem bs_impl (A : Option Addr) (l : List Int) (c : Nat) (cr : Int) (w : World) (ha : Rd w A l) (hl : l.length ≤ 1048576) (hlc : l.length ≤ c) :
    Calls Try.prog 22 #[.slice A l.length c, .int .i64 cr] w (Ans (fun s => .tuple #[s, .bool (bsOk l cr)]) (bsVal l cr).length (bsVal l cr) 3 w) := by
  have HNIL : Hid (bsOk l cr = false → Ans (fun s => .tuple #[s, .bool (bsOk l cr)]) (bsVal l cr).length (bsVal l cr) 3 w (.returned (.tuple #[.slice none 0 0, .bool false])) w) := fun h => by
    rw [bsVal_no h, h]
    exact ⟨none, 0, rfl, Own.nil_, Below.refl _ _⟩
  cases hv : workV l
  · have HQ := Lib.hid (wv_is (c := c) ha hl hv)
    have HO := Lib.hid (p := bsOk l cr = false) (by unfold bsOk; rw [hv]; rfl)
    clear hv
    go_enter Try.func22, Try.ntmps22
    go_wp2_with fail
    refine HQ.out.mono ?_
    rintro e w' ⟨rfl, rfl⟩
    go_wp2_with fail
    go_ret2
    exact HNIL.out HO.out
  · have HQ := Lib.hid (wv_is (c := c) ha hl hv)
    by_cases hcr : 1 ≤ cr ∧ cr ≤ 4
    · obtain ⟨m, rfl⟩ : ∃ m : Nat, cr = (m : Int) + 1 := ⟨(cr - 1).toNat, by omega⟩
      have hm : m ≤ 3 := by omega
      have h8 := (workV_spec hv).2
      obtain ⟨f, hf⟩ : ∃ f : List Int → Int, f = greatS l := ⟨_, rfl⟩
      have HF := Lib.hid hf
      have HFN : Hid (∀ q ∈ enumF l.length 0 m, 0 ≤ f q ∧ f q ≤ 792) := fun q hq => by rw [hf]; exact great_nn hv hm hq
      have HC := Lib.hid (chain_all l.length (by omega) m (by omega))
      have HE0 := Lib.hid (enum_0 l.length (by omega) m (by omega))
      have HMEM : Hid (∀ q ∈ enumF l.length 0 m, q.length = m ∧ ∀ y ∈ q, 0 ≤ y ∧ y ≤ (l.length : Int)) := fun q hq => by simpa using enumF_mem hq
      have HV := Lib.hid hv
      have HY : Hid (∀ x, firstMin f (enumF l.length 0 m) = some x → bsVal l ((m : Int) + 1) = x ∧ bsOk l ((m : Int) + 1) = true) := fun x hx => bsVal_yes hv hm (by unfold bestS; rw [← hf]; exact hx)
      obtain ⟨E, HE⟩ : ∃ E, Hid (enumF l.length 0 m = E) := ⟨_, rfl⟩
      rw [HE.out] at HFN HC HE0 HMEM HY
      have HGS : Hid (∀ (B : Option Addr) (q : List Int) (d : Nat) (W : World), Rd W A l → Rd W B q → q.length ≤ 1048576 → Calls Try.prog 20 #[.slice A l.length c, .slice B q.length d] W fun e w' => e = .returned (.int .i64 (f q)) ∧ Below W.heap.size W w') := fun B q d W h1 h2 h3 => by
        rw [hf]; exact gs_impl A B l q c d W h1 h2 hl h3 hlc
      obtain ⟨i0, hi, hz0, hz1, hz2⟩ := info_parts info_int
      clear hv hf
      go_enter Try.func22, Try.ntmps22
      go_wp2_with fail
      refine HQ.out.mono ?_
      rintro e w' ⟨rfl, rfl⟩
      go_wp2_with fail
      refine (within_t _ _ _ _ hcr).mono ?_
      rintro e w' ⟨rfl, rfl⟩
      go_wp2_with (at_make; refine wpList_make_full _ rfl _ _ 22 rfl w.heap.size 3 i0 (.int .i64 0) 1 Try.underlying22 hi hz0 hz1 .i64 .i64 _ _ m rfl rfl ?c3 ?c4 ?c1 ?c2 (Nat.le_refl _) ?_)
      case c1 => rw [hz2]; omega
      case c2 => unfold maxLen; omega
      case c3 => omega
      case c4 => omega
      intro w1 hrow hg1
      obtain ⟨cs0, hb0, hcs0⟩ := blk_of_full hrow rfl
      have o0 : Own 3 w1 w.heap.size (w.heap.size + 1) (some ⟨w.heap.size, 0, none⟩) (List.replicate m 0) := by
        refine Own.of_blk hb0 (Nat.le_refl _) (by omega) fun k x hx => ?_
        have e1 : cs0.toList = List.replicate m (Value.int .i64 0) := by
          rw [hcs0]; simpa using toList_madeCells_one (.int .i64 0) m
        rw [List.getElem?_replicate] at hx
        split at hx
        · injection hx with hx
          subst hx
          rw [← Array.getElem?_toList, e1, List.getElem?_replicate, if_pos (by assumption)]
        · cases hx
      have hb1 := below_grown hg1
      have hs1 := hb0.lt
      clear hrow hg1 hcs0 hz0 hz1 hz2 hi hb0
      go_wp2_with fail
      go_loopg [6, 7] E.length (fun gg b t wr => ∃ (k : Nat) (q : List Int), gg = E.length - k ∧ Hid (E[k]? = some q) ∧ Own 3 wr w.heap.size (w.heap.size + 1) (some ⟨w.heap.size, 0, none⟩) q ∧ ((k = 0 ∧ b = .slice none 0 0 ∧ t = .int .i64 (-1)) ∨ BestAt f E k q (w.heap.size + 1) b t wr) ∧ Below w.heap.size w wr ∧ w.heap.size + 1 ≤ wr.heap.size)
      case atStart => exact ⟨0, _, by omega, HE0.out, o0, .inl ⟨rfl, rfl, rfl⟩, hb1, by omega⟩
      case round =>
        obtain ⟨k, q, hgk, HQK, o, hst, hbw, hz⟩ := hrel
        have hkE : k < E.length := (List.getElem?_eq_some_iff.1 HQK.out).1
        have hqE := mem_at HQK.out
        obtain ⟨hqm, hqv⟩ := HMEM.out q hqE
        have hfq := HFN.out q hqE
        have HQM := Lib.hid hqm
        have HQV := Lib.hid hqv
        have HQE := Lib.hid hqE
        clear hqm hqv hqE
        have HNX : Hid (∀ W : World, Own 3 W w.heap.size (w.heap.size + 1) (some ⟨w.heap.size, 0, none⟩) q → Calls Try.prog 36 #[.slice (some ⟨w.heap.size, 0, none⟩) m m, .int .i64 l.length] W fun e w' => e = .returned (.bool (E[k + 1]?).isSome) ∧ Own 3 w' w.heap.size (w.heap.size + 1) (some ⟨w.heap.size, 0, none⟩) ((E[k + 1]?).getD q) ∧ Chg w.heap.size (w.heap.size + 1) W w') := fun W hW => by
          have h := nextCuts_any w.heap.size (w.heap.size + 1) _ q m l.length W hW (by have := HQM.out; omega) hl HQV.out
          rw [HQM.out, chain_next HC.out HQK.out] at h
          exact h
        have HGQ : Hid (∀ W : World, Below w.heap.size w W → Own 3 W w.heap.size (w.heap.size + 1) (some ⟨w.heap.size, 0, none⟩) q → Calls Try.prog 20 #[.slice A l.length c, .slice (some ⟨w.heap.size, 0, none⟩) m m] W fun e w' => e = .returned (.int .i64 (f q)) ∧ Below W.heap.size W w') := fun W hW ho => by
          have h := HGS.out (some ⟨w.heap.size, 0, none⟩) q m W (ha.below hW) ho.rd (by have := HQM.out; omega)
          rw [HQM.out] at h
          exact h
        have HCL : Hid (∀ W : World, Own 3 W w.heap.size (w.heap.size + 1) (some ⟨w.heap.size, 0, none⟩) q → Calls Try.prog 35 #[.slice (some ⟨w.heap.size, 0, none⟩) m m] W fun e w' => ∃ A' c', e = .returned (.slice A' m c') ∧ Own 3 w' W.heap.size w'.heap.size A' q ∧ Below W.heap.size W w') := fun W ho => by
          have h := clone_any (some ⟨w.heap.size, 0, none⟩) q m W ho.rd (by have := HQM.out; omega)
          rw [HQM.out] at h
          exact h.mono fun _ _ ⟨A', c', h1, _, h3, h4⟩ => ⟨A', c', h1, h3, h4⟩
        cases hN : E[k + 1]? with
        | none =>
          have HNone := Lib.hid hN
          rw [hN] at HNX
          clear hN
          rcases hst with ⟨hk0, rfl, rfl⟩ | ⟨AX, cX, x, rfl, rfl, hfx, hox⟩
          · have HK0 := Lib.hid hk0
            clear hk0
            go_wp2_with fail
            refine (HGQ.out wr hbw o).mono ?_
            rintro e w2 ⟨rfl, b2⟩
            have o2 := o.below b2 (by omega)
            have hbw2 := hbw.trans (b2.mono (by omega))
            have hz2 : w.heap.size + 1 ≤ w2.heap.size := Nat.le_trans hz b2.size
            go_wp2_with fail
            refine (HCL.out w2 o2).mono ?_
            rintro e wN ⟨A3, c3, rfl, o3, b3⟩
            have HBN : Hid (BestAt f E (k + 1) q (w.heap.size + 1) (.slice A3 m c3) (.int .i64 (f q)) wN) := by rw [← HQM.out]; exact best_first HQK.out HK0.out (o3.wide (by omega) (Nat.le_refl _))
            have oN := o2.below b3 (by omega)
            have hbwN := hbw2.trans (b3.mono (by omega))
            have hzN : w.heap.size + 1 ≤ wN.heap.size := Nat.le_trans hz2 b3.size
            clear o3 b3 o2 b2
            go_wp2_with fail
            refine (HNX.out wN oN).mono ?_
            rintro e w4 ⟨rfl, o4, c4⟩
            have HF4 := Lib.hid (HBN.out.chg c4 (Nat.le_refl _))
            have hbw4 := hbwN.trans (c4.below (Nat.le_refl _) (by omega))
            go_wp2_with fail
            go_ret2
            exact best_done HNone.out HQK.out HY.out HF4.out hbw4 rfl
          · have HFX := Lib.hid hfx
            have HOX := Lib.hid hox
            have hxE := mem_firstMin hfx
            have hxb := HFN.out x hxE
            clear hfx hox hxE
            by_cases hlt : f q < f x
            · have HLT := Lib.hid hlt
              go_wp2_with fail
              refine (HGQ.out wr hbw o).mono ?_
              rintro e w2 ⟨rfl, b2⟩
              have o2 := o.below b2 (by omega)
              have hbw2 := hbw.trans (b2.mono (by omega))
              have hz2 : w.heap.size + 1 ≤ w2.heap.size := Nat.le_trans hz b2.size
              go_wp2_with fail
              refine (HCL.out w2 o2).mono ?_
              rintro e wN ⟨A3, c3, rfl, o3, b3⟩
              have HBN : Hid (BestAt f E (k + 1) q (w.heap.size + 1) (.slice A3 m c3) (.int .i64 (f q)) wN) := by rw [← HQM.out]; exact best_less HQK.out HFX.out HLT.out (o3.wide (by omega) (Nat.le_refl _))
              have oN := o2.below b3 (by omega)
              have hbwN := hbw2.trans (b3.mono (by omega))
              have hzN : w.heap.size + 1 ≤ wN.heap.size := Nat.le_trans hz2 b3.size
              clear o3 b3 o2 b2
              go_wp2_with fail
              refine (HNX.out wN oN).mono ?_
              rintro e w4 ⟨rfl, o4, c4⟩
              have HF4 := Lib.hid (HBN.out.chg c4 (Nat.le_refl _))
              have hbw4 := hbwN.trans (c4.below (Nat.le_refl _) (by omega))
              go_wp2_with fail
              go_ret2
              exact best_done HNone.out HQK.out HY.out HF4.out hbw4 rfl
            · have HLT := Lib.hid hlt
              have hnl : ¬ f q < f x := hlt
              go_wp2_with fail
              refine (HGQ.out wr hbw o).mono ?_
              rintro e wN ⟨rfl, b2⟩
              have oN := o.below b2 (by omega)
              have hbwN := hbw.trans (b2.mono (by omega))
              have hzN : w.heap.size + 1 ≤ wN.heap.size := Nat.le_trans hz b2.size
              have HBN : Hid (BestAt f E (k + 1) q (w.heap.size + 1) (.slice AX x.length cX) (.int .i64 (f x)) wN) := best_keep HQK.out HFX.out (by have := HLT.out; omega) ((HOX.out.below b2 (Nat.le_refl _)).wide (Nat.le_refl _) b2.size)
              clear b2
              go_wp2_with fail
              refine (HNX.out wN oN).mono ?_
              rintro e w4 ⟨rfl, o4, c4⟩
              have HF4 := Lib.hid (HBN.out.chg c4 (Nat.le_refl _))
              have hbw4 := hbwN.trans (c4.below (Nat.le_refl _) (by omega))
              go_wp2_with fail
              go_ret2
              exact best_done HNone.out HQK.out HY.out HF4.out hbw4 rfl
        | some q2 =>
          have HSome := Lib.hid hN
          rw [hN] at HNX
          clear hN
          rcases hst with ⟨hk0, rfl, rfl⟩ | ⟨AX, cX, x, rfl, rfl, hfx, hox⟩
          · have HK0 := Lib.hid hk0
            clear hk0
            go_wp2_with fail
            refine (HGQ.out wr hbw o).mono ?_
            rintro e w2 ⟨rfl, b2⟩
            have o2 := o.below b2 (by omega)
            have hbw2 := hbw.trans (b2.mono (by omega))
            have hz2 : w.heap.size + 1 ≤ w2.heap.size := Nat.le_trans hz b2.size
            go_wp2_with fail
            refine (HCL.out w2 o2).mono ?_
            rintro e wN ⟨A3, c3, rfl, o3, b3⟩
            have HBN : Hid (BestAt f E (k + 1) q (w.heap.size + 1) (.slice A3 m c3) (.int .i64 (f q)) wN) := by rw [← HQM.out]; exact best_first HQK.out HK0.out (o3.wide (by omega) (Nat.le_refl _))
            have oN := o2.below b3 (by omega)
            have hbwN := hbw2.trans (b3.mono (by omega))
            have hzN : w.heap.size + 1 ≤ wN.heap.size := Nat.le_trans hz2 b3.size
            clear o3 b3 o2 b2
            go_wp2_with fail
            refine (HNX.out wN oN).mono ?_
            rintro e w4 ⟨rfl, o4, c4⟩
            have HF4 := Lib.hid (HBN.out.chg c4 (Nat.le_refl _))
            have hbw4 := hbwN.trans (c4.below (Nat.le_refl _) (by omega))
            have hz4 : w.heap.size + 1 ≤ w4.heap.size := Nat.le_trans hzN c4.size
            go_wp2_with fail
            go_roundg (E.length - (k + 1))
            case measure => omega
            case rel => exact ⟨k + 1, q2, rfl, HSome.out, o4, .inr HF4.out, hbw4, hz4⟩
          · have HFX := Lib.hid hfx
            have HOX := Lib.hid hox
            have hxE := mem_firstMin hfx
            have hxb := HFN.out x hxE
            clear hfx hox hxE
            by_cases hlt : f q < f x
            · have HLT := Lib.hid hlt
              go_wp2_with fail
              refine (HGQ.out wr hbw o).mono ?_
              rintro e w2 ⟨rfl, b2⟩
              have o2 := o.below b2 (by omega)
              have hbw2 := hbw.trans (b2.mono (by omega))
              have hz2 : w.heap.size + 1 ≤ w2.heap.size := Nat.le_trans hz b2.size
              go_wp2_with fail
              refine (HCL.out w2 o2).mono ?_
              rintro e wN ⟨A3, c3, rfl, o3, b3⟩
              have HBN : Hid (BestAt f E (k + 1) q (w.heap.size + 1) (.slice A3 m c3) (.int .i64 (f q)) wN) := by rw [← HQM.out]; exact best_less HQK.out HFX.out HLT.out (o3.wide (by omega) (Nat.le_refl _))
              have oN := o2.below b3 (by omega)
              have hbwN := hbw2.trans (b3.mono (by omega))
              have hzN : w.heap.size + 1 ≤ wN.heap.size := Nat.le_trans hz2 b3.size
              clear o3 b3 o2 b2
              go_wp2_with fail
              refine (HNX.out wN oN).mono ?_
              rintro e w4 ⟨rfl, o4, c4⟩
              have HF4 := Lib.hid (HBN.out.chg c4 (Nat.le_refl _))
              have hbw4 := hbwN.trans (c4.below (Nat.le_refl _) (by omega))
              have hz4 : w.heap.size + 1 ≤ w4.heap.size := Nat.le_trans hzN c4.size
              go_wp2_with fail
              go_roundg (E.length - (k + 1))
              case measure => omega
              case rel => exact ⟨k + 1, q2, rfl, HSome.out, o4, .inr HF4.out, hbw4, hz4⟩
            · have HLT := Lib.hid hlt
              have hnl : ¬ f q < f x := hlt
              go_wp2_with fail
              refine (HGQ.out wr hbw o).mono ?_
              rintro e wN ⟨rfl, b2⟩
              have oN := o.below b2 (by omega)
              have hbwN := hbw.trans (b2.mono (by omega))
              have hzN : w.heap.size + 1 ≤ wN.heap.size := Nat.le_trans hz b2.size
              have HBN : Hid (BestAt f E (k + 1) q (w.heap.size + 1) (.slice AX x.length cX) (.int .i64 (f x)) wN) := best_keep HQK.out HFX.out (by have := HLT.out; omega) ((HOX.out.below b2 (Nat.le_refl _)).wide (Nat.le_refl _) b2.size)
              clear b2
              go_wp2_with fail
              refine (HNX.out wN oN).mono ?_
              rintro e w4 ⟨rfl, o4, c4⟩
              have HF4 := Lib.hid (HBN.out.chg c4 (Nat.le_refl _))
              have hbw4 := hbwN.trans (c4.below (Nat.le_refl _) (by omega))
              have hz4 : w.heap.size + 1 ≤ w4.heap.size := Nat.le_trans hzN c4.size
              go_wp2_with fail
              go_roundg (E.length - (k + 1))
              case measure => omega
              case rel => exact ⟨k + 1, q2, rfl, HSome.out, o4, .inr HF4.out, hbw4, hz4⟩
    · have HO := Lib.hid (p := bsOk l cr = false) (by unfold bsOk; rw [decide_eq_false hcr, Bool.and_false])
      clear hv
      go_enter Try.func22, Try.ntmps22
      go_wp2_with fail
      refine HQ.out.mono ?_
      rintro e w' ⟨rfl, rfl⟩
      go_wp2_with fail
      refine (within_f _ _ _ _ hcr).mono ?_
      rintro e w' ⟨rfl, rfl⟩
      go_wp2_with fail
      go_ret2
      exact HNIL.out HO.out
end Go.Proofs.Ytoopmikcehmpdaa
