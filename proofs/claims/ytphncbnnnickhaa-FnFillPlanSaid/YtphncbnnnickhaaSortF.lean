/- slices.SortFunc at a short list of boxes: what stands above the insertion sort; comparisons of numbers. -/
import Derived.Test.YtphncbnnnickhaaSortB
namespace Go.Proofs.Ytphncbnnnickhaa
open Go.RowKit Go.Shelf
set_option linter.unusedVariables false
set_option linter.unusedSimpArgs false

def SomeI (w : World) (e : Ending) (w' : World) : Prop := ∃ v : Int, e = .returned (.int .i64 v) ∧ w = w'
set_option maxHeartbeats 4000000 in
set_option maxRecDepth 100000 in
theorem len64_any (x : Int) (w : World) (h0 : 0 ≤ x) (h1 : x ≤ 12) : Calls Try.prog 102 #[.int .u64 x] w (SomeI w) := by
  have t0 : ¬ (4294967296 : Int) ≤ x := by omega
  have t1 : ¬ (65536 : Int) ≤ x := by omega
  have t2 : ¬ (256 : Int) ≤ x := by omega
  go_enter Try.func102, Try.ntmps102
  go_wp2
  go_ret
  exact ⟨_, rfl, rfl⟩
set_option maxHeartbeats 400000 in
theorem len_any (x : Int) (w : World) (h0 : 0 ≤ x) (h1 : x ≤ 12) : Calls Try.prog 72 #[.int .u64 x] w (SomeI w) := by
  go_enter Try.func72, Try.ntmps72
  go_wp2_with fail
  refine (len64_any x _ h0 h1).mono ?_
  rintro e w' ⟨v, rfl, rfl⟩
  go_wp2_with fail
  go_ret
  exact ⟨_, rfl, rfl⟩
set_option maxHeartbeats 400000 in
theorem isNaN_any (x : Int) (w : World) : Calls Try.prog 73 #[.int .i64 x] w fun e w' => e = .returned (.bool false) ∧ w = w' := by
  have t : (x != x) = false := by simp
  go_enter Try.func73, Try.ntmps73
  go_wp2
  go_ret
  exact ⟨rfl, rfl⟩
/-- cmp.Compare. -/
def cmpI (x y : Int) : Int := if x < y then -1 else if y < x then 1 else 0
set_option maxHeartbeats 400000 in
theorem compare_any (x y : Int) (w : World) : Calls Try.prog 44 #[.int .i64 x, .int .i64 y] w fun e w' => e = .returned (.int .i64 (cmpI x y)) ∧ w = w' := by
  obtain ⟨r, HR⟩ : ∃ r, Hid (cmpI x y = r) := ⟨_, rfl⟩
  rw [HR.out]
  by_cases h1 : x < y
  · go_enter Try.func44, Try.ntmps44
    go_wp2_with (first | (go_at_call 73; refine (isNaN_any _ _).mono ?_; rintro e w' ⟨rfl, rfl⟩))
    go_ret
    exact ⟨ret_int (by rw [← HR.out, cmpI, if_pos h1]), rfl⟩
  · by_cases h2 : y < x
    · go_enter Try.func44, Try.ntmps44
      go_wp2_with (first | (go_at_call 73; refine (isNaN_any _ _).mono ?_; rintro e w' ⟨rfl, rfl⟩))
      go_ret
      exact ⟨ret_int (by rw [← HR.out, cmpI, if_neg (by omega), if_pos h2]), rfl⟩
    · go_enter Try.func44, Try.ntmps44
      go_wp2_with (first | (go_at_call 73; refine (isNaN_any _ _).mono ?_; rintro e w' ⟨rfl, rfl⟩))
      go_ret
      exact ⟨ret_int (by rw [← HR.out, cmpI, if_neg (by omega), if_neg (by omega)]), rfl⟩
set_option maxHeartbeats 1600000 in
set_option maxRecDepth 100000 in
theorem pdq_any (f : Nat) (lb : Array Value) (eg : ∀ args w, (callFunc f args).run Try.prog w = .ok (.enter f args) w) (cf : BoxV → BoxV → Int) (P : BoxV → Prop) (q : List BoxV) (n g c : Nat) (cs : Array Value) (lim : Int) (w : World)
    (hk : Blk w g 45 cs) (hc : PreL cs (flatBox q)) (hq : ∀ x ∈ q, P x) (hn : q.length = n) (h8 : n ≤ 12) (hcf : ∀ x y : BoxV, P x → P y → -100000 ≤ cf x y ∧ cf x y ≤ 100000) (hp : CmpB f lb cf P g w) :
    Calls Try.prog 71 #[.slice (some ⟨g, 0, none⟩) n c, .int .i64 0, .int .i64 n, .int .i64 lim, .func (.func f) #[] lb] w fun e w' => e = .returned (.tuple #[]) ∧ (∃ cs' : Array Value, Blk w' g 45 cs' ∧ PreL cs' (flatBox (insS cf q))) ∧ Chg g (g + 1) w w' := by
  have HI := Lib.hid (insertion_any f lb eg cf P q n g c cs w hk hc hq hn (by omega) hcf hp)
  clear hk hc hq hn hcf hp
  have h13 : (n : Int) ≤ 12 := by omega
  go_enter Try.func71, Try.ntmps71
  go_wp2_with fail
  go_loop [1, 2] (fun a b => a = .int .i64 0 ∧ b = .int .i64 n) (fun _ _ => 0)
  case atStart => exact ⟨rfl, rfl⟩
  case round =>
    obtain ⟨rfl, rfl⟩ := hrel
    go_wp2_with fail
    refine HI.out.mono ?_
    rintro e w1 ⟨rfl, hcs, hch⟩
    have HCS := Lib.hid hcs
    clear hcs
    go_wp2_with fail
    refine bodyPost_ret (results_none rfl _ _ _) rfl ?_
    exact ⟨rfl, HCS.out, hch⟩
set_option maxHeartbeats 800000 in
theorem sortFunc_any (f : Nat) (lb : Array Value) (eg : ∀ args w, (callFunc f args).run Try.prog w = .ok (.enter f args) w) (cf : BoxV → BoxV → Int) (P : BoxV → Prop) (q : List BoxV) (n g c : Nat) (cs : Array Value) (w : World)
    (hk : Blk w g 45 cs) (hc : PreL cs (flatBox q)) (hq : ∀ x ∈ q, P x) (hn : q.length = n) (h8 : n ≤ 12) (hcf : ∀ x y : BoxV, P x → P y → -100000 ≤ cf x y ∧ cf x y ≤ 100000) (hp : CmpB f lb cf P g w) :
    Calls Try.prog 41 #[.slice (some ⟨g, 0, none⟩) n c, .func (.func f) #[] lb] w fun e w' => e = .returned (.tuple #[]) ∧ (∃ cs' : Array Value, Blk w' g 45 cs' ∧ PreL cs' (flatBox (insS cf q))) ∧ Chg g (g + 1) w w' := by
  have HI := Lib.hid (fun lim => pdq_any f lb eg cf P q n g c cs lim w hk hc hq hn h8 hcf hp)
  clear hk hc hq hn hcf hp
  go_enter Try.func41, Try.ntmps41
  go_wp2_with fail
  refine (len_any n _ (by omega) (by omega)).mono ?_
  rintro e w' ⟨v, rfl, rfl⟩
  go_wp2_with fail
  refine (HI.out v).mono ?_
  rintro e w1 ⟨rfl, hcs, hch⟩
  have HCS := Lib.hid hcs
  clear hcs
  go_wp2_with fail
  go_end0
  exact ⟨rfl, HCS.out, hch⟩
/-! A list of none. -/
set_option maxHeartbeats 400000 in
theorem ins0_any (f : Fn) (A : Option Addr) (c : Nat) (lb : Array Value) (w : World) :
    Calls Try.prog 93 #[.slice A 0 c, .int .i64 0, .int .i64 0, .func f #[] lb] w fun e w' => e = .returned (.tuple #[]) ∧ w = w' := by
  go_enter Try.func93, Try.ntmps93
  go_wp2_with fail
  go_loop [8] (fun i => i = .int .i64 1) (fun _ => 0)
  case atStart => rfl
  case round =>
    obtain rfl := hrel
    go_wp2_with fail
    go_end0
    exact ⟨rfl, rfl⟩
set_option maxHeartbeats 800000 in
set_option maxRecDepth 100000 in
theorem pdq0_any (f : Fn) (A : Option Addr) (c : Nat) (lb : Array Value) (lim : Int) (w : World) :
    Calls Try.prog 71 #[.slice A 0 c, .int .i64 0, .int .i64 0, .int .i64 lim, .func f #[] lb] w fun e w' => e = .returned (.tuple #[]) ∧ w = w' := by
  go_enter Try.func71, Try.ntmps71
  go_wp2_with fail
  go_loop [1, 2] (fun a b => a = .int .i64 0 ∧ b = .int .i64 0) (fun _ _ => 0)
  case atStart => exact ⟨rfl, rfl⟩
  case round =>
    obtain ⟨rfl, rfl⟩ := hrel
    go_wp2_with fail
    refine (ins0_any f A c lb _).mono ?_
    rintro e w' ⟨rfl, rfl⟩
    go_wp2_with fail
    refine bodyPost_ret (results_none rfl _ _ _) rfl ?_
    exact ⟨rfl, rfl⟩
set_option maxHeartbeats 800000 in
theorem sort0_any (f : Fn) (A : Option Addr) (c : Nat) (lb : Array Value) (w : World) :
    Calls Try.prog 41 #[.slice A 0 c, .func f #[] lb] w fun e w' => e = .returned (.tuple #[]) ∧ w = w' := by
  go_enter Try.func41, Try.ntmps41
  go_wp2_with fail
  refine (len_any 0 _ (by omega) (by omega)).mono ?_
  rintro e w' ⟨v, rfl, rfl⟩
  go_wp2_with fail
  refine (pdq0_any f A c lb v _).mono ?_
  rintro e w' ⟨rfl, rfl⟩
  go_wp2_with fail
  go_end0
  exact ⟨rfl, rfl⟩
end Go.Proofs.Ytphncbnnnickhaa
