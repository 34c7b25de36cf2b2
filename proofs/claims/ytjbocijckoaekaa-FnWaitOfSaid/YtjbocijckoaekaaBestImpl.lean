/- BestWait: the program's walk. -/
import Derived.Test.YtjbocijckoaekaaPermWalk
import Derived.Test.YtjbocijckoaekaaRangeLaw
import Derived.Test.YtjbocijckoaekaaBestSpec
import Derived.Test.YtjbocijckoaekaaWait
import Derived.Test.YtjbocijckoaekaaWaitLaw
import Derived.Test.YtjbocijckoaekaaCloneInt
namespace Go.Proofs.Ytjbocijckoaekaa
open Go.RowKit Go.Shelf
attribute [local go_sem] Oper.semAt_some
set_option linter.unusedVariables false
set_option linter.unusedSimpArgs false

set_option maxHeartbeats 400000 in
theorem clo_best (A : Option Addr) (l : List ShipV) (c X d : Nat) (g : Option Addr) (o : List Int) (W : World) (ha : RdShip W A l) (hX : Blk W X 25 #[.slice A l.length c]) (ho : Rd W g o) (hl : l.length ≤ 1048576) (ho2 : o.length ≤ 1048576) (hd : o.length ≤ d) :
    Calls Try.prog 46 #[.slice g o.length d, .pointer (some ⟨X, 0, none⟩)] W fun e w' => e = .returned (.int .i64 (waitS l o)) ∧ Below W.heap.size W w' := by
  have HQ := Lib.hid (wo_impl A g l o c d W ha ho hl ho2 hd)
  have c0 := hX.cell 0
  simp only [List.getElem?_toArray, List.getElem?_cons_zero] at c0
  obtain ⟨N, HN⟩ : ∃ N, Hid (waitS l o = N) := ⟨_, rfl⟩
  rw [HN.out] at HQ ⊢
  go_enter Try.func46, Try.ntmps46
  go_wp2_with fail
  refine HQ.out.mono ?_
  rintro e w1 ⟨rfl, b1⟩
  go_wp2_with fail
  go_ret
  exact ⟨rfl, b1⟩

def leastV (l : List ShipV) : Option (List Int) → Int
  | none => -1
  | some b => waitS l b
def bestIs (n1 : Nat) (s : Option (List Int)) (v : Value) (W : World) : Prop :=
  match s with
  | none => v = .slice none 0 0
  | some b => ∃ A c, v = .slice A b.length c ∧ b.length ≤ c ∧ Own 3 W n1 W.heap.size A b
theorem bestIs.slice {n1 : Nat} {s : Option (List Int)} {v : Value} {W : World} (h : bestIs n1 s v W) : ∃ A m c, v = .slice A m c := by
  cases s with
  | none => exact ⟨_, _, _, h⟩
  | some b => obtain ⟨A, c, h1, _⟩ := h; exact ⟨_, _, _, h1⟩
theorem bestIs.chg {n1 lo hi : Nat} {s : Option (List Int)} {v : Value} {W W' : World} (h : bestIs n1 s v W) (hc : Chg lo hi W W') (hd : hi ≤ n1) : bestIs n1 s v W' := by
  cases s with
  | none => exact h
  | some b =>
    obtain ⟨A, c, h1, h2, h3⟩ := h
    exact ⟨A, c, h1, h2, (h3.chg hc (.inr hd)).wide (Nat.le_refl _) hc.size⟩
theorem chg_put {W : World} {l : Nat} {o : Obj} : Chg l (l + 1) W (W.putObj l o) := ⟨rfl, rfl, rfl, by simp [World.putObj], fun k hk hr => World.putObj_heap_other (by omega)⟩

/-- What the caller's blocks hold, s being the best so far. -/
structure LoJ (l : List ShipV) (w : World) (cost : Value) (lp D : Nat) (r : Loop) (n1 : Nat) (s : Option (List Int)) (W : World) : Prop where
  bc : Blk W w.heap.size 52 #[cost]
  bb : ∃ v, Blk W (w.heap.size + 1) 29 #[v] ∧ bestIs n1 s v W
  bm : Blk W (w.heap.size + 1 + 1) 3 #[.int .i64 (leastV l s)]
  bl : W.heap[lp]? = some (.loop r)
  bd : W.heap[D]? = some (.deferred (some []))
  bel : Below w.heap.size w W
  gd : ∀ b, s = some b → permV b l.length = true
section
variable {l : List ShipV} {w W W' : World} {cost : Value} {lp D n0 n1 : Nat} {r : Loop} {s : Option (List Int)}
theorem LoJ.chg (h : LoJ l w cost lp D r n1 s W) (hc : Chg n0 n1 W W') (h0 : w.heap.size + 3 ≤ n0) (h1 : lp < n0) (h2 : D < n0) : LoJ l w cost lp D r n1 s W' := by
  obtain ⟨v, hv, hb⟩ := h.bb
  refine ⟨h.bc.chg hc (.inl (by omega)), ⟨v, hv.chg hc (.inl (by omega)), hb.chg hc (Nat.le_refl _)⟩, h.bm.chg hc (.inl (by omega)), ?_, ?_, h.bel.trans (hc.below (by omega) h.bel.size), h.gd⟩
  · exact (hc.block lp (Array.getElem?_eq_some_iff.1 h.bl).1 (.inl h1)).trans h.bl
  · exact (hc.block D (Array.getElem?_eq_some_iff.1 h.bd).1 (.inl h2)).trans h.bd
theorem St.same {n O T Y E G LB q0 q1 q2 : Nat} {cl : Array Value} {o : List Int} (hs : St n lp O T Y E G LB cl o W) (hc : ∀ k, k < W.heap.size → k ≠ q0 → k ≠ q1 → k ≠ q2 → W'.heap[k]? = W.heap[k]?)
    (off : ∀ k, (k = O ∨ k = T ∨ k = Y ∨ k = E ∨ k = G ∨ k = LB) → k ≠ q0 ∧ k ≠ q1 ∧ k ≠ q2) : St n lp O T Y E G LB cl o W' := by
  have hb : ∀ (k : Nat) (t : TypeId) (cs : Array Value), Blk W k t cs → (k = O ∨ k = T ∨ k = Y ∨ k = E ∨ k = G ∨ k = LB) → Blk W' k t cs := fun k t cs h hk => by
    obtain ⟨h0, h1, h2⟩ := off k hk
    exact (hc k h.lt h0 h1 h2).trans h
  refine ⟨hb _ _ _ hs.bo (by simp), hb _ _ _ hs.bt (by simp), hb _ _ _ hs.by_ (by simp), hb _ _ _ hs.be (by simp), hb _ _ _ hs.bl (by simp), hs.row.1, ?_⟩
  rcases hs.row.2 with ⟨h0, _⟩ | ⟨g, cap, cur, hv, hgb, hh, rest⟩
  · cases h0
  · cases hv
    exact .inr ⟨_, _, cur, rfl, hgb, hb _ _ _ hh (by simp), rest⟩
/-- A round is over: the caller's blocks hold what comes next, the record is put back. -/
theorem LoJ.go {s' : Option (List Int)} {n O T Y E G LB : Nat} {cl : Array Value} {o : List Int} (h : LoJ l w cost lp D r n1 s W) (hs : St n lp O T Y E G LB cl o W)
    (hc : ∀ k, k < W.heap.size → k ≠ lp → k ≠ w.heap.size + 1 → k ≠ w.heap.size + 1 + 1 → W'.heap[k]? = W.heap[k]?)
    (bel : Below w.heap.size w W') (bm : Blk W' (w.heap.size + 1 + 1) 3 #[.int .i64 (leastV l s')]) (bb : ∃ v, Blk W' (w.heap.size + 1) 29 #[v] ∧ bestIs n1 s' v W') (gd : ∀ b, s' = some b → permV b l.length = true)
    (off : ∀ k, (k = O ∨ k = T ∨ k = Y ∨ k = E ∨ k = G ∨ k = LB) → k ≠ lp ∧ k ≠ w.heap.size + 1 ∧ k ≠ w.heap.size + 1 + 1) (h1 : w.heap.size + 3 ≤ D) (h2 : D < lp) (h3 : lp < n1) (h4 : lp < W'.heap.size) :
    LoJ l w cost lp D r n1 s' (W'.putObj lp (.loop r)) ∧ St n lp O T Y E G LB cl o (W'.putObj lp (.loop r)) := by
  have hx : ∀ k, k < W.heap.size → k ≠ lp → k ≠ w.heap.size + 1 → k ≠ w.heap.size + 1 + 1 → (W'.putObj lp (.loop r)).heap[k]? = W.heap[k]? := fun k hk k0 k1 k2 => (World.putObj_heap_other k0).trans (hc k hk k0 k1 k2)
  obtain ⟨v, hv, hb⟩ := bb
  refine ⟨⟨(hx _ h.bc.lt (by omega) (by omega) (by omega)).trans h.bc, ⟨v, hv.put (by omega), hb.chg (chg_put (l := lp)) (by omega)⟩, bm.put (by omega), World.putObj_heap_same h4, ?_, bel.trans (putObj_below (by omega)), gd⟩, hs.same hx off⟩
  exact (hx _ (Array.getElem?_eq_some_iff.1 h.bd).1 (by omega) (by omega) (by omega)).trans h.bd
end
theorem perms_any (v : Value) (w : World) (A : Option Addr) (n c : Nat) (e : v = .slice A n c) :
    Calls Try.prog 55 #[.slice A n c] w fun e w' => e = .returned (.func (.func 65) #[] #[.pointer (some ⟨w.heap.size, 0, none⟩)]) ∧ w' = w.alloc (.cells #[.slice A n c] 29) := by
  go_enter Try.func55, Try.ntmps55
  go_wp2
  go_ret
  exact ⟨rfl, rfl⟩
set_option maxHeartbeats 1600000 in
theorem lo_impl (A : Option Addr) (l : List ShipV) (c X : Nat) (w : World) (ha : RdShip w A l) (hX : Blk w X 25 #[.slice A l.length c]) (hv : listV l = true) :
    Calls Try.prog 45 #[.int .i64 l.length, .func (.func 46) #[] #[.pointer (some ⟨X, 0, none⟩)]] w (AnsC (fun s => s) (bestS l).length (bestS l) 3 w) := by
  have hl5 := (listV_spec hv).2
  have HV := Lib.hid hv
  have HA := Lib.hid ha
  have HX := Lib.hid hX
  have hXl := hX.lt
  clear hv ha hX
  refine (callsIn_wide (n := 0)).1 ?_
  refine callsIn_of_wp_marks Try.func45 rfl trivial ?_ rfl
  simp only [Try.ntmps45, List.size_toArray, List.length_cons, List.length_nil, Nat.reduceAdd, Nat.reduceSub, Array.replicate_succ, Array.replicate_zero, List.push_toArray, List.append_toArray, List.nil_append, List.cons_append]
  have bC := Blk.new w 52 #[.func (.func 46) #[] #[.pointer (some ⟨X, 0, none⟩)]]
  have bB := Blk.new (w.alloc (.cells #[.func (.func 46) #[] #[.pointer (some ⟨X, 0, none⟩)]] 52)) 29 #[.slice none 0 0]
  have bM := Blk.new ((w.alloc (.cells #[.func (.func 46) #[] #[.pointer (some ⟨X, 0, none⟩)]] 52)).alloc (.cells #[.slice none 0 0] 29)) 3 #[.int .i64 (-1)]
  simp only [World.size_alloc, Nat.add_assoc, Nat.reduceAdd] at bB bM
  have HC := Lib.hid ((bC.alloc (.cells #[.slice none 0 0] 29)).alloc (.cells #[.int .i64 (-1)] 3))
  have HB := Lib.hid (bB.alloc (.cells #[.int .i64 (-1)] 3))
  have HM := Lib.hid bM
  have HW := Lib.hid ((((Below.refl w.heap.size w).alloc (Nat.le_refl _) (.cells #[.func (.func 46) #[] #[.pointer (some ⟨X, 0, none⟩)]] 52)).alloc (by simp) (.cells #[.slice none 0 0] 29)).alloc (by simp; omega) (.cells #[.int .i64 (-1)] 3))
  have hsz : (((w.alloc (.cells #[.func (.func 46) #[] #[.pointer (some ⟨X, 0, none⟩)]] 52)).alloc (.cells #[.slice none 0 0] 29)).alloc (.cells #[.int .i64 (-1)] 3)).heap.size = w.heap.size + 3 := by simp
  have HZ := Lib.hid hsz
  clear bC bB bM hsz
  gi_wp2_with (first
    | (refine ⟨trivial, rfl, ?_⟩; gi_at_call 47; refine (callsIn_wide.2 (indices_any l.length _ (by omega))).mono ?_; rintro e w2 ⟨rfl, ⟨cs, hcs, hcl⟩, b2⟩
       rw [HZ.out] at hcs b2 ⊢
       have HCS := Lib.hid hcs
       have HCL := Lib.hid hcl
       have HC2 := Lib.hid (HC.out.below b2 (by omega))
       have HB2 := Lib.hid (HB.out.below b2 (by omega))
       have HM2 := Lib.hid (HM.out.below b2 (by omega))
       have HW2 := Lib.hid (HW.out.trans (b2.mono (by omega)))
       clear hcs hcl b2)
    | (refine ⟨trivial, rfl, ?_⟩; gi_at_call 55; refine (callsIn_wide.2 (perms_any _ _ _ _ _ rfl)).mono ?_; rintro e w3 ⟨rfl, q3⟩
       have bT := Blk.new w2 29 #[.slice (some ⟨w.heap.size + 3, 0, none⟩) l.length l.length]
       have hs3 : w3.heap.size = w2.heap.size + 1 := by rw [q3]; exact World.size_alloc _ _
       have b3 : Below w2.heap.size w2 w3 := by rw [q3]; exact (Below.refl _ _).alloc (Nat.le_refl _) _
       rw [← q3] at bT
       have hz2 := HW2.out.size
       have hz2b := HCS.out.lt
       have HT3 := Lib.hid bT
       have HC3 := Lib.hid (HC2.out.below b3 HC2.out.lt)
       have HB3 := Lib.hid (HB2.out.below b3 HB2.out.lt)
       have HM3 := Lib.hid (HM2.out.below b3 HM2.out.lt)
       have HL3 := Lib.hid (HCS.out.below b3 hz2b)
       have HW3 := Lib.hid (HW2.out.trans (b3.mono hz2))
       clear q3 bT b3 HC2 HB2 HM2 HCS HW2 HC HB HM HW))
  refine range_law (gf := 65) (lb := #[.pointer (some ⟨w2.heap.size, 0, none⟩)]) rfl (enters_of Try.func65 (by kernel_rfl) rfl) ?_
  intro r W1 hrs hrp hrt hrpar hra hrb hb1 hs1 hl1 hd1
  have HS1 := Lib.hid hs1
  have HS3 := Lib.hid hs3
  have HRA := Lib.hid hra
  have HRB := Lib.hid hrb
  have HRT := Lib.hid hrt
  have HRS := Lib.hid hrs
  have HRP := Lib.hid hrp
  have HRR := Lib.hid hrpar
  have HL1 := Lib.hid hl1
  have HD1 := Lib.hid hd1
  clear hs1 hs3 hra hrb hrt hrs hrp hrpar hl1 hd1
  have z1 : w3.heap.size + 1 < W1.heap.size := by have := HS1.out; omega
  have z2 : w2.heap.size < w3.heap.size := by have := HS3.out; omega
  refine (perms_in (JN := LoJ l w (.func (.func 46) #[] #[.pointer (some ⟨X, 0, none⟩)]) (w3.heap.size + 1) w3.heap.size r) (step := better (waitS l)) (l := w3.heap.size + 1) (n := l.length) (cl := cs) W1 w2.heap.size (w.heap.size + 3) HCL.out (by omega) (HT3.out.below hb1 HT3.out.lt) (HL3.out.below hb1 HL3.out.lt) _ none ?hj ?hJ ?hY).mono ?_
  case hj =>
    intro n1 W' hn1 hbw
    have hbw2 := hb1.trans (hbw.mono hb1.size)
    refine ⟨HC3.out.below hbw2 HC3.out.lt, ⟨_, HB3.out.below hbw2 HB3.out.lt, rfl⟩, HM3.out.below hbw2 HM3.out.lt, ?_, ?_, HW3.out.trans (hbw2.mono HW3.out.size), fun b e => by cases e⟩
    · exact (hbw.block _ (by omega)).trans HL1.out
    · exact (hbw.block _ (by omega)).trans HD1.out
  case hJ =>
    intro n1 s A' B' h hc
    exact h.chg hc (by omega) (by omega) (by omega)
  case hY =>
    intro O m s o W' hO hg hol hJN hSt
    refine yield_law hJN.bl HRS.out HRP.out HRR.out ?_
    rw [HRA.out, HRT.out]
    have HJN := Lib.hid hJN
    have HST := Lib.hid hSt
    have HOL := Lib.hid hol
    have HG := Lib.hid hg
    clear hJN hSt hol hg
    gi_wp2
    refine round_intro HRB.out (Array.getElem?_eq_some_iff.1 HJN.out.bl).1 ?_
    intro Wb K hsame hcb hszb hK
    obtain ⟨v, hBv, hbi⟩ := HJN.out.bb
    have HBI := Lib.hid hbi
    have HK := Lib.hid hK
    have HCB := Lib.hid hcb
    have HSM := Lib.hid hsame
    have kc : Blk Wb w.heap.size 52 #[.func (.func 46) #[] #[.pointer (some ⟨X, 0, none⟩)]] := (hsame _ (by omega)).trans HJN.out.bc
    have kb : Blk Wb (w.heap.size + 1) 29 #[v] := (hsame _ (by omega)).trans hBv
    have km : Blk Wb (w.heap.size + 1 + 1) 3 #[.int .i64 (leastV l s)] := (hsame _ (by omega)).trans HJN.out.bm
    have belb : Below w.heap.size w Wb := HJN.out.bel.trans (hcb.below (by omega) HJN.out.bel.size)
    have HSTB := Lib.hid (HST.out.same (W' := Wb) (q0 := w3.heap.size + 1) (q1 := w.heap.size + 1) (q2 := w.heap.size + 1 + 1) (fun k _ hk _ _ => hsame k hk) (by intro k hk; omega))
    have HRD := Lib.hid (Own.of_row HSTB.out.row (Nat.le_refl Wb.heap.size)).rd
    have HXB := Lib.hid (HX.out.below belb hXl)
    have HAB := Lib.hid (HA.out.below belb)
    have HQ := Lib.hid (clo_best A l c X l.length (some ⟨W1.heap.size + 1, 0, none⟩) o Wb HAB.out HXB.out HRD.out (by omega) (by have := HOL.out; omega) (by have := HOL.out; omega))
    rw [HOL.out] at HQ
    have c0 := kc.cell 0
    simp only [List.getElem?_toArray, List.getElem?_cons_zero] at c0
    have HKC := Lib.hid kc
    have HKB := Lib.hid kb
    have HKM := Lib.hid km
    have HBEL := Lib.hid belb
    have HSZ := Lib.hid hszb
    have zb : w.heap.size + 1 + 1 < Wb.heap.size := km.lt
    obtain ⟨wo, HWO⟩ : ∃ x, Hid (waitS l o = x) := ⟨_, rfl⟩
    rw [HWO.out] at HQ
    clear kc kb km belb hszb hsame hcb hK hBv hbi
    have zz := HSZ.out
    have zlp : w3.heap.size + 1 < Wb.heap.size := by have := (Array.getElem?_eq_some_iff.1 HJN.out.bl).1; omega
    have HSTAY : Hid (better (waitS l) s o = s → ∀ W5, Below Wb.heap.size Wb W5 → K W5) := fun he W5 b5 =>
      HK.out W5 (b5.block _ zlp) ⟨rfl, by
        rw [he]
        exact LoJ.go HJN.out HST.out (fun k hk k0 k1 k2 => (b5.block k (by omega)).trans (HSM.out k k0)) (HBEL.out.trans (b5.mono HBEL.out.size)) (HKM.out.below b5 HKM.out.lt)
          ⟨v, HKB.out.below b5 HKB.out.lt, (HBI.out.chg HCB.out (by omega)).chg (lo := 0) (hi := 0) (Chg.of_below b5 (Nat.le_refl _)) (by omega)⟩ HJN.out.gd (by intro k hk; omega) (by omega) (by omega) (by omega) (Nat.lt_of_lt_of_le zlp b5.size)⟩
    have HNEW : Hid (better (waitS l) s o = some o → ∀ W5 A' c' W6, Below Wb.heap.size Wb W5 → Below W5.heap.size W5 W6 → Own 3 W6 W5.heap.size W6.heap.size A' o → o.length ≤ c' →
        K ((W6.setCell ⟨w.heap.size + 1, 0, none⟩ (.slice A' l.length c')).setCell ⟨w.heap.size + 1 + 1, 0, none⟩ (.int .i64 wo))) := fun he W5 A' c' W6 b5 b6 how hc' => by
      have b56 := b5.trans (b6.mono b5.size)
      have hs6 : Wb.heap.size ≤ W6.heap.size := b56.size
      have hn1 : O + 2 ≤ W5.heap.size := by have := HSTB.out.be.lt; have := b5.size; omega
      refine HK.out _ ?_ ⟨rfl, ?_⟩
      · rw [Below.heap_setCell _ _ _ _ (by simp; omega), Below.heap_setCell _ _ _ _ (by simp; omega)]
        exact b56.block _ zlp
      · rw [he]
        refine LoJ.go HJN.out HST.out (fun k hk k0 k1 k2 => ?_) ?_ ?_ ⟨_, ((HKB.out.below b56 HKB.out.lt).set_ 0 _).far (by simp) _, A', c', by rw [HOL.out], hc', ?_⟩ (fun b e => ?_) (by intro k hk; omega) (by omega) (by omega) (by omega) (by simp [World.setCell]; omega)
        · rw [Below.heap_setCell _ _ _ _ (by simpa using k2), Below.heap_setCell _ _ _ _ (by simpa using k1)]
          exact (b56.block k (by omega)).trans (HSM.out k k0)
        · exact ((HBEL.out.trans (b56.mono HBEL.out.size)).setCell (by show _ ≤ w.heap.size + 1; omega) _).setCell (by show _ ≤ w.heap.size + 1 + 1; omega) _
        · have h := ((HKM.out.below b56 HKM.out.lt).far (p := ⟨w.heap.size + 1, 0, none⟩) (by simp) (.slice A' l.length c')).set_ 0 (.int .i64 wo)
          rw [← HWO.out] at h ⊢
          exact h
        · have hch : Chg (w.heap.size + 1) (w.heap.size + 3) W6 ((W6.setCell ⟨w.heap.size + 1, 0, none⟩ (.slice A' l.length c')).setCell ⟨w.heap.size + 1 + 1, 0, none⟩ (.int .i64 wo)) := ((Chg.refl _ _ _).setCell (by show _ ≤ w.heap.size + 1; omega) (by show w.heap.size + 1 < _; omega) _).setCell (by show _ ≤ w.heap.size + 1 + 1; omega) (by show w.heap.size + 1 + 1 < _; omega) _
          exact (how.chg hch (.inr (by omega))).wide hn1 hch.size
        · injection e with e
          subst e
          exact perm_of_good HG.out HOL.out
    have HCLN : Hid (∀ W5, Below Wb.heap.size Wb W5 → Calls Try.prog 56 #[.slice (some ⟨W1.heap.size + 1, 0, none⟩) l.length l.length] W5 fun e w' => ∃ A' c', e = .returned (.slice A' l.length c') ∧ o.length ≤ c' ∧ Own 3 w' W5.heap.size w'.heap.size A' o ∧ Below W5.heap.size W5 w') := fun W5 b5 => by
      have h := clone_any (some ⟨W1.heap.size + 1, 0, none⟩) o l.length W5 (HRD.out.below b5) (by have := HOL.out; omega)
      rw [HOL.out] at h
      exact h.mono fun e w' ⟨A', c', h1, h2, h3, h4⟩ => ⟨A', c', h1, by have := HOL.out; omega, h3, h4⟩
    cases s with
    | none =>
      have hlv : leastV l none = -1 := rfl
      rw [hlv] at HKM
      gi_wp2_with (first
        | (refine ⟨trivial, (fun h => by cases h), ?_⟩; gi_at_call 46; refine (CallsIn.inRound _ (callsIn_wide.2 HQ.out)).mono ?_; rintro e w5 ⟨rfl, b5⟩
           have HB5 := Lib.hid b5
           have c5 := (HKM.out.below b5 HKM.out.lt).cell 0
           simp only [List.getElem?_toArray, List.getElem?_cons_zero] at c5)
        | (refine ⟨trivial, (fun h => by cases h), ?_⟩; gi_at_call 56; refine (CallsIn.inRound _ (callsIn_wide.2 (HCLN.out _ HB5.out))).mono ?_; rintro e w6 ⟨A', c', rfl, hc', how, b6⟩
           have HO6 := Lib.hid how
           have HB6 := Lib.hid b6
           clear c5
           have k6 := (HKB.out.below (HB5.out.trans (b6.mono HB5.out.size)) HKB.out.lt)
           have m6 := (HKM.out.below (HB5.out.trans (b6.mono HB5.out.size)) HKM.out.lt)
           have ck6 := k6.cell 0
           have fk6 := k6.frozen 0
           have m7 := m6.far (p := ⟨w.heap.size + 1, 0, none⟩) (by simp) (.slice A' l.length c')
           have cm6 := m7.cell 0
           have fm6 := m7.frozen 0
           simp only [List.getElem?_toArray, List.getElem?_cons_zero] at ck6 cm6
           clear how b6 k6 m6 m7))
      exact HNEW.out rfl _ _ _ _ HB5.out HB6.out HO6.out hc'
    | some b =>
      have hlv : leastV l (some b) = waitS l b := rfl
      rw [hlv] at HKM
      obtain ⟨wb, HWB⟩ : ∃ x, Hid (waitS l b = x) := ⟨_, rfl⟩
      rw [HWB.out] at HKM
      have hw0 : ¬ wb < 0 := by have := waitS_nonneg (ok_yes HV.out (HJN.out.gd b rfl)); rw [HWB.out] at this; omega
      by_cases hlt : wo < wb
      · have HBT : Hid (better (waitS l) (some b) o = some o) := by show (if waitS l o < waitS l b then some o else some b) = some o; rw [if_pos (by rw [HWO.out, HWB.out]; exact hlt)]
        gi_wp2_with (first
          | (refine ⟨trivial, (fun h => by cases h), ?_⟩; gi_at_call 46; refine (CallsIn.inRound _ (callsIn_wide.2 HQ.out)).mono ?_; rintro e w5 ⟨rfl, b5⟩
             have HB5 := Lib.hid b5
             have c5 := (HKM.out.below b5 HKM.out.lt).cell 0
             simp only [List.getElem?_toArray, List.getElem?_cons_zero] at c5)
          | (refine ⟨trivial, (fun h => by cases h), ?_⟩; gi_at_call 56; refine (CallsIn.inRound _ (callsIn_wide.2 (HCLN.out _ HB5.out))).mono ?_; rintro e w6 ⟨A', c', rfl, hc', how, b6⟩
             have HO6 := Lib.hid how
             have HB6 := Lib.hid b6
             clear c5
             have k6 := (HKB.out.below (HB5.out.trans (b6.mono HB5.out.size)) HKB.out.lt)
             have m6 := (HKM.out.below (HB5.out.trans (b6.mono HB5.out.size)) HKM.out.lt)
             have ck6 := k6.cell 0
             have fk6 := k6.frozen 0
             have m7 := m6.far (p := ⟨w.heap.size + 1, 0, none⟩) (by simp) (.slice A' l.length c')
             have cm6 := m7.cell 0
             have fm6 := m7.frozen 0
             simp only [List.getElem?_toArray, List.getElem?_cons_zero] at ck6 cm6
             clear how b6 k6 m6 m7))
        exact HNEW.out HBT.out _ _ _ _ HB5.out HB6.out HO6.out hc'
      · have HBT : Hid (better (waitS l) (some b) o = some b) := by show (if waitS l o < waitS l b then some o else some b) = some b; rw [if_neg (by rw [HWO.out, HWB.out]; exact hlt)]
        gi_wp2_with (first
          | (refine ⟨trivial, (fun h => by cases h), ?_⟩; gi_at_call 46; refine (CallsIn.inRound _ (callsIn_wide.2 HQ.out)).mono ?_; rintro e w5 ⟨rfl, b5⟩
             have HB5 := Lib.hid b5
             have c5 := (HKM.out.below b5 HKM.out.lt).cell 0
             simp only [List.getElem?_toArray, List.getElem?_cons_zero] at c5)
          | (refine ⟨trivial, (fun h => by cases h), ?_⟩; gi_at_call 56; refine (CallsIn.inRound _ (callsIn_wide.2 (HCLN.out _ HB5.out))).mono ?_; rintro e w6 ⟨A', c', rfl, hc', how, b6⟩
             have HO6 := Lib.hid how
             have HB6 := Lib.hid b6
             clear c5
             have k6 := (HKB.out.below (HB5.out.trans (b6.mono HB5.out.size)) HKB.out.lt)
             have m6 := (HKM.out.below (HB5.out.trans (b6.mono HB5.out.size)) HKM.out.lt)
             have ck6 := k6.cell 0
             have fk6 := k6.frozen 0
             have m7 := m6.far (p := ⟨w.heap.size + 1, 0, none⟩) (by simp) (.slice A' l.length c')
             have cm6 := m7.cell 0
             have fm6 := m7.frozen 0
             simp only [List.getElem?_toArray, List.getElem?_cons_zero] at ck6 cm6
             clear how b6 k6 m6 m7))
        exact HSTAY.out HBT.out _ HB5.out
  rintro e W2 ⟨⟨v, rfl⟩, n1, hn1, hJ2⟩
  refine ⟨⟨v, rfl⟩, hJ2.bl, ?_⟩
  obtain ⟨bb, e1, e2, e3, _⟩ := best_good (l := l) (f := l.length) (o := []) (good_nil _) (by simp)
  have HBS : Hid (bestS l = bb) := by show _ = _; rw [bestS_yes HV.out]; unfold bestR; rw [e1]; rfl
  unfold bestOf at e1
  rw [e1] at hJ2
  obtain ⟨v2, hBv, A', c', hv2, hc', how⟩ := hJ2.bb
  subst hv2
  have zlp : w3.heap.size + 1 < W2.heap.size := (Array.getElem?_eq_some_iff.1 hJ2.bl).1
  have kB := hBv.put (l := w3.heap.size + 1) (o := .loop { r with state := .exhausted }) (by omega)
  have hK : (W2.putObj (w3.heap.size + 1) (.loop { r with state := .exhausted })).heap[w3.heap.size]? = some (.deferred (some [])) := (World.putObj_heap_other (by omega)).trans hJ2.bd
  have hch : Chg w3.heap.size (w3.heap.size + 2) W2 ((W2.putObj (w3.heap.size + 1) (.loop { r with state := .exhausted })).putObj w3.heap.size (.deferred none)) := (chg_put.wide (by omega) (by omega)).trans (chg_put.wide (by omega) (by omega))
  have HFIN : Hid (AnsC (fun s => s) (bestS l).length (bestS l) 3 w (.returned (.slice A' bb.length c')) ((W2.putObj (w3.heap.size + 1) (.loop { r with state := .exhausted })).putObj w3.heap.size (.deferred none))) := by
    rw [HBS.out]
    exact ⟨A', c', rfl, hc', (how.chg hch (.inr (by omega))).wide (by omega) hch.size, hJ2.bel.trans (hch.below (by omega) hJ2.bel.size)⟩
  have HK := Lib.hid hK
  have c0 := kB.cell 0
  simp only [List.getElem?_toArray, List.getElem?_cons_zero] at c0
  clear kB hch how hBv hJ2 hK e1 e2 e3
  obtain ⟨W4, HW4⟩ : ∃ W4, Hid (W2.putObj (w3.heap.size + 1) (.loop { r with state := .exhausted }) = W4) := ⟨_, rfl⟩
  rw [HW4.out] at HFIN HK c0 ⊢
  gi_wp2
  refine ⟨by simp, .inl ⟨_, _, rfl, run_takeDeferred HK.out, ?_⟩⟩
  refine ⟨_, results_tmp rfl _ _ _, ?_⟩
  exact HFIN.out

set_option maxHeartbeats 800000 in
theorem bw_implC (A : Option Addr) (l : List ShipV) (c : Nat) (w : World) (ha : RdShip w A l) (hl : l.length ≤ 1048576) :
    Calls Try.prog 28 #[.slice A l.length c] w (AnsC (fun s => s) (bestS l).length (bestS l) 3 w) := by
  obtain ⟨N, HN⟩ : ∃ N, Hid (bestS l = N) := ⟨_, rfl⟩
  have hbx := Blk.new w 25 #[.slice A l.length c]
  have ha0 := ha.alloc (.cells #[.slice A l.length c] 25)
  have bw0 : Below w.heap.size w (w.alloc (.cells #[.slice A l.length c] 25)) := (Below.refl _ _).alloc (Nat.le_refl _) _
  cases hv : listV l with
  | false =>
    have HQ := Lib.hid (lvb (lv_impl A l c _ ha0 hl) hv)
    have HO := Lib.hid (HN.out.symm.trans (bestS_no hv))
    have HB := Lib.hid bw0
    clear hv
    rw [HN.out]
    go_enter Try.func28, Try.ntmps28
    go_wp2_with fail
    refine HQ.out.mono ?_
    rintro e w1 ⟨rfl, b1⟩
    go_wp2_with fail
    go_ret
    rw [HO.out]
    exact ⟨none, 0, rfl, Nat.le_refl _, Own.nil_, HB.out.trans (b1.mono HB.out.size)⟩
  | true =>
    have HQ := Lib.hid (lvb (lv_impl A l c _ ha0 hl) hv)
    have HLO := Lib.hid (fun W (h1 : RdShip W A l) (h2 : Blk W w.heap.size 25 #[.slice A l.length c]) => lo_impl A l c w.heap.size W h1 h2 hv)
    rw [HN.out] at HLO ⊢
    have HB := Lib.hid bw0
    have HBX := Lib.hid hbx
    have HA0 := Lib.hid ha0
    clear hv hbx
    go_enter Try.func28, Try.ntmps28
    go_wp2_with fail
    refine HQ.out.mono ?_
    rintro e w1 ⟨rfl, b1⟩
    have bw1 := HB.out.trans (b1.mono HB.out.size)
    have k1 := HBX.out.below b1 HBX.out.lt
    have x0 := k1.cell 0
    simp only [List.getElem?_toArray, List.getElem?_cons_zero] at x0
    have HL1 := Lib.hid (HLO.out w1 (HA0.out.below b1) k1)
    clear k1
    go_wp2_with fail
    refine HL1.out.mono ?_
    rintro e w2 ⟨A', c', rfl, h1, h2, h3⟩
    have HF : Hid (AnsC (fun s => s) N.length N 3 w (.returned (.slice A' N.length c')) w2) := ⟨A', c', rfl, h1, h2.wide bw1.size (Nat.le_refl _), bw1.trans (h3.mono bw1.size)⟩
    clear h2
    go_wp2_with fail
    go_ret
    exact HF.out
theorem bw_impl (A : Option Addr) (l : List ShipV) (c : Nat) (w : World) (ha : RdShip w A l) (hl : l.length ≤ 1048576) :
    Calls Try.prog 28 #[.slice A l.length c] w (Ans (fun s => s) (bestS l).length (bestS l) 3 w) := (bw_implC A l c w ha hl).mono fun _ _ h => h.ans
theorem bw_spec (A : Option Addr) (l : List ShipV) (c : Nat) (w : World) (ha : RdShip w A l) (hl : l.length ≤ 1048576) :
    Calls Try.prog 27 #[.slice A l.length c] w (Ans (fun s => s) (bestS l).length (bestS l) 3 w) := (bw_specC A l c w ha hl).mono fun _ _ h => h.ans
end Go.Proofs.Ytjbocijckoaekaa
