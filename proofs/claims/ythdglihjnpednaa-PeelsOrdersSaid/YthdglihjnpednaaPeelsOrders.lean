/-
  PeelsOrders: which orders there are, a vertex's place, the order that a seed makes: the program's answers are the document's. No condition.
-/
import Derived.Test.YthdglihjnpednaaRows
import Derived.Test.YthdglihjnpednaaK
import Derived.Test.YthdglihjnpednaaKe
import Derived.Outline
import Derived.WalkLawsBesides
import Derived.ChangeOld
import Derived.SizedLaws
import Derived.BigRegion
import Derived.Deep.LoopGhost
set_option linter.unusedVariables false
set_option linter.unusedSimpArgs false
namespace Go.Proofs.Ythdglihjnpednaa.peelsOrders
open Go.ChangeShapes Go.WideShapes Go.ChangeAt Go.RowKit
open Go.ChangeMaps (open_string shut_string)

def Rel (k : IntKind) (a b : Nat) (w : World) (x y : Value) (wr : World) : Prop := ∃ m n : Nat, m ≤ 4294967295 ∧ n ≤ 4294967295 ∧ x = .int k m ∧ y = .int k n ∧ Nat.gcd m n = Nat.gcd a b ∧ Below w.heap.size w wr
theorem ret_nat {k : IntKind} {a b : Int} (h : a = b) : Ending.returned (.int k a) = .returned (.int k b) := by rw [h]
theorem common (a b : Nat) (ha : a ≤ 4294967295) (hb : b ≤ 4294967295) (w : World) :
    Calls Try.prog 54 #[.int .u32 a, .int .u32 b] w fun e w' => e = .returned (.int .u32 (Nat.gcd a b : Nat)) ∧ Below w.heap.size w w' := by
  go_enter Try.func54, Try.ntmps54
  go_wp2
  go_loopw [0, 1] (fun x y wr => Rel .u32 a b w x y wr) (fun _ y _ => (intOf y).toNat)
  case atStart => exact ⟨a, b, ha, hb, rfl, rfl, rfl, Below.refl _ _⟩
  case round =>
    obtain ⟨m, n, hm, hn, rfl, rfl, hg, hl⟩ := hrel
    have hG := Lib.hid hg
    clear hg
    rcases Nat.eq_zero_or_pos n with rfl | h0
    · go_wp2
      go_ret
      exact ⟨ret_nat (by rw [← hG.out, Nat.gcd_zero_right]), hl⟩
    · have hlt := Nat.mod_lt m h0
      have hp : (0 : Int) < (n : Int) := by omega
      have hL := Lib.hid hl
      clear hl
      go_wp2
      go_region
      all_goals
        go_wp2
        go_roundw
        case rel => exact ⟨n, m % n, hn, by omega, rfl, by go_num, by rw [← hG.out, Nat.gcd_comm n, ← Nat.gcd_rec, Nat.gcd_comm], hL.out.drew⟩
        case measure => simp [intOf]; omega
def Rel' (a b : Nat) (x y : Value) : Prop := ∃ m n : Nat, m ≤ 4294967295 ∧ n ≤ 4294967295 ∧ x = .int .u64 m ∧ y = .int .u64 n ∧ Nat.gcd m n = Nat.gcd a b
theorem divisor (a b : Nat) (ha : a ≤ 4294967295) (hb : b ≤ 4294967295) (w : World) :
    Calls Try.prog 55 #[.int .u64 a, .int .u64 b] w fun e w' => e = .returned (.int .u64 (Nat.gcd a b : Nat)) ∧ Below w.heap.size w w' := by
  go_enter Try.func55, Try.ntmps55
  go_wp2
  go_loop [0, 1, 5] (fun x y _ => Rel' a b x y) (fun _ y _ => (intOf y).toNat)
  case atStart => exact ⟨a, b, ha, hb, rfl, rfl, rfl⟩
  case round =>
    obtain ⟨m, n, hm, hn, rfl, rfl, hg⟩ := hrel
    have hG := Lib.hid hg
    clear hg
    rcases Nat.eq_zero_or_pos n with rfl | h0
    · go_wp2
      go_ret
      exact ⟨ret_nat (by rw [← hG.out, Nat.gcd_zero_right]), Below.refl _ _⟩
    · have hlt := Nat.mod_lt m h0
      have hp : (0 : Int) < (n : Int) := by omega
      go_wp2
      go_round
      case rel => exact ⟨n, m % n, hn, by omega, rfl, by go_num, by rw [← hG.out, Nat.gcd_comm n, ← Nat.gcd_rec, Nat.gcd_comm]⟩
      case measure => simp [intOf]; omega
/-- Is it an order of all vertices? -/
def isOrder (n a c : Nat) : Int := if n < 1 ∨ 2147483647 < n ∨ n ≤ a ∨ n ≤ c ∨ Nat.gcd a n ≠ 1 then 140 else 0
set_option maxHeartbeats 1000000 in
theorem check (n a c : Nat) (hn : n ≤ 4294967295) (ha : a ≤ 4294967295) (hc : c ≤ 4294967295) (w : World) :
    Calls Try.prog 35 #[.agg #[.int .u32 n, .int .u32 a, .int .u32 c]] w fun e w' => e = .returned (.int .i64 (isOrder n a c)) ∧ Below w.heap.size w w' := by
  have hcm := fun W => common a n ha hn W
  by_cases h1 : n < 1
  · rw [show isOrder n a c = 140 from if_pos (.inl h1)]
    have d1 : (n : Int) < 1 := by omega
    clear hcm
    go_enter Try.func35, Try.ntmps35
    go_wp2
    go_ret
    exact ⟨rfl, (Below.refl _ _).alloc (Nat.le_refl _) _⟩
  have d1 : ¬ (n : Int) < 1 := by omega
  by_cases h2 : 2147483647 < n
  · rw [show isOrder n a c = 140 from if_pos (.inr (.inl h2))]
    have d2 : (2147483647 : Int) < n := by omega
    clear hcm
    go_enter Try.func35, Try.ntmps35
    go_wp2
    go_ret
    exact ⟨rfl, (Below.refl _ _).alloc (Nat.le_refl _) _⟩
  have d2 : ¬ (2147483647 : Int) < n := by omega
  by_cases h3 : n ≤ a
  · rw [show isOrder n a c = 140 from if_pos (.inr (.inr (.inl h3)))]
    clear hcm
    go_enter Try.func35, Try.ntmps35
    go_wp2
    go_ret
    exact ⟨rfl, (Below.refl _ _).alloc (Nat.le_refl _) _⟩
  by_cases h4 : n ≤ c
  · rw [show isOrder n a c = 140 from if_pos (.inr (.inr (.inr (.inl h4))))]
    clear hcm
    go_enter Try.func35, Try.ntmps35
    go_wp2
    go_ret
    exact ⟨rfl, (Below.refl _ _).alloc (Nat.le_refl _) _⟩
  obtain ⟨g, hg⟩ : ∃ g, g = Nat.gcd a n := ⟨_, rfl⟩
  by_cases h5 : g ≠ 1
  · rw [show isOrder n a c = 140 from if_pos (.inr (.inr (.inr (.inr (hg ▸ h5)))))]
    rw [← hg] at hcm
    clear hg
    have d5 : ((g : Int) != 1) = true := by simp; omega
    have d6 : ((g : Int) == 1) = false := by simp; omega
    have H := Lib.hid hcm
    clear hcm
    go_enter Try.func35, Try.ntmps35
    go_wp2_with fail
    refine (H.out _).mono ?_
    rintro e w1 ⟨rfl, hw1⟩
    go_wp2
    go_ret
    exact ⟨rfl, ((Below.refl _ _).alloc (Nat.le_refl _) _).trans (hw1.mono (by simp))⟩
  · rw [show isOrder n a c = 0 from if_neg (by rw [← hg]; omega)]
    obtain rfl : g = 1 := by omega
    rw [← hg] at hcm
    clear hg
    have H := Lib.hid hcm
    clear hcm
    go_enter Try.func35, Try.ntmps35
    go_wp2_with fail
    refine (H.out _).mono ?_
    rintro e w1 ⟨rfl, hw1⟩
    go_wp2
    go_ret
    exact ⟨rfl, ((Below.refl _ _).alloc (Nat.le_refl _) _).trans (hw1.mono (by simp))⟩
set_option maxHeartbeats 1000000 in
theorem refCheck (n a c : Nat) (hn : n ≤ 4294967295) (ha : a ≤ 4294967295) (hc : c ≤ 4294967295) (w : World) :
    Calls Try.prog 36 #[.agg #[.int .u32 n, .int .u32 a, .int .u32 c]] w fun e w' => e = .returned (.int .i64 (isOrder n a c)) ∧ Below w.heap.size w w' := by
  have hcm := fun W => divisor a n ha hn W
  by_cases h1 : n < 1
  · rw [show isOrder n a c = 140 from if_pos (.inl h1)]
    have d1 : (n : Int) < 1 := by omega
    clear hcm
    go_enter Try.func36, Try.ntmps36
    go_wp2
    go_ret
    exact ⟨rfl, (Below.refl _ _).alloc (Nat.le_refl _) _⟩
  have d1 : ¬ (n : Int) < 1 := by omega
  by_cases h2 : 2147483647 < n
  · rw [show isOrder n a c = 140 from if_pos (.inr (.inl h2))]
    have d2 : (2147483647 : Int) < n := by omega
    clear hcm
    go_enter Try.func36, Try.ntmps36
    go_wp2
    go_ret
    exact ⟨rfl, (Below.refl _ _).alloc (Nat.le_refl _) _⟩
  have d2 : ¬ (2147483647 : Int) < n := by omega
  by_cases h3 : n ≤ a
  · rw [show isOrder n a c = 140 from if_pos (.inr (.inr (.inl h3)))]
    clear hcm
    go_enter Try.func36, Try.ntmps36
    go_wp2
    go_ret
    exact ⟨rfl, (Below.refl _ _).alloc (Nat.le_refl _) _⟩
  by_cases h4 : n ≤ c
  · rw [show isOrder n a c = 140 from if_pos (.inr (.inr (.inr (.inl h4))))]
    clear hcm
    go_enter Try.func36, Try.ntmps36
    go_wp2
    go_ret
    exact ⟨rfl, (Below.refl _ _).alloc (Nat.le_refl _) _⟩
  obtain ⟨g, hg⟩ : ∃ g, g = Nat.gcd a n := ⟨_, rfl⟩
  by_cases h5 : g ≠ 1
  · rw [show isOrder n a c = 140 from if_pos (.inr (.inr (.inr (.inr (hg ▸ h5)))))]
    rw [← hg] at hcm
    clear hg
    have d5 : ((g : Int) != 1) = true := by simp; omega
    have d6 : ((g : Int) == 1) = false := by simp; omega
    have H := Lib.hid hcm
    clear hcm
    go_enter Try.func36, Try.ntmps36
    go_wp2_with fail
    refine (H.out _).mono ?_
    rintro e w1 ⟨rfl, hw1⟩
    go_wp2
    go_ret
    exact ⟨rfl, ((Below.refl _ _).alloc (Nat.le_refl _) _).trans (hw1.mono (by simp))⟩
  · rw [show isOrder n a c = 0 from if_neg (by rw [← hg]; omega)]
    obtain rfl : g = 1 := by omega
    rw [← hg] at hcm
    clear hg
    have H := Lib.hid hcm
    clear hcm
    go_enter Try.func36, Try.ntmps36
    go_wp2_with fail
    refine (H.out _).mono ?_
    rintro e w1 ⟨rfl, hw1⟩
    go_wp2
    go_ret
    exact ⟨rfl, ((Below.refl _ _).alloc (Nat.le_refl _) _).trans (hw1.mono (by simp))⟩
theorem isOrder_yes {n a c : Nat} (h : isOrder n a c = 0) : ¬ n < 1 ∧ ¬ 2147483647 < n ∧ ¬ n ≤ a ∧ ¬ n ≤ c := by
  unfold isOrder at h
  split at h
  · cases h
  · omega
theorem isOrder_no {n a c : Nat} (h : isOrder n a c ≠ 0) : isOrder n a c = 140 := by
  unfold isOrder at h ⊢
  split
  · rfl
  · rw [if_neg (by assumption)] at h; exact absurd rfl h
def placeV (n a c v : Nat) : Int := if isOrder n a c ≠ 0 then 0 else if n ≤ v then 0 else ((a * v + c) % n : Nat)
def placeE (n a c v : Nat) : Int := if isOrder n a c ≠ 0 then 140 else if n ≤ v then 2 else 0
theorem ret2_u32 {a b : Int} {v : Value} (h : a = b) : Ending.returned (.tuple #[.int .u32 a, v]) = .returned (.tuple #[.int .u32 b, v]) := by rw [h]
theorem place_num (p c n : Nat) (h0 : 0 < n) (hn : n ≤ 4294967295) : ((p : Int) + c) % n % 4294967296 = ((p + c) % n : Nat) := by
  have hlt := Nat.mod_lt (p + c) h0
  have e1 : ((p : Int) + c) % n = (((p + c) % n : Nat) : Int) := by push_cast; rfl
  rw [e1]
  omega
theorem inner (n a c v : Nat) (h : isOrder n a c = 0) (hv : v ≤ 4294967295) (w : World) :
    Calls Try.prog 53 #[.agg #[.int .u32 n, .int .u32 a, .int .u32 c], .int .u32 v] w fun e w' => e = .returned (.tuple #[.int .u32 (placeV n a c v), .int .i64 (placeE n a c v)]) ∧ Below w.heap.size w w' := by
  obtain ⟨g1, g2, g3, g4⟩ := isOrder_yes h
  by_cases h2 : n ≤ v
  · rw [show placeV n a c v = 0 by unfold placeV; rw [if_neg (by simp [h]), if_pos h2], show placeE n a c v = 2 by unfold placeE; rw [if_neg (by simp [h]), if_pos h2]]
    clear h
    go_enter Try.func53, Try.ntmps53
    go_wp2
    go_ret2
    exact ⟨rfl, (Below.refl _ _).alloc (Nat.le_refl _) _⟩
  · rw [show placeV n a c v = ((a * v + c) % n : Nat) by unfold placeV; rw [if_neg (by simp [h]), if_neg h2], show placeE n a c v = 0 by unfold placeE; rw [if_neg (by simp [h]), if_neg h2]]
    clear h
    have hb : a * v ≤ 2147483647 * 2147483647 := Nat.mul_le_mul (by omega) (by omega)
    obtain ⟨p, hp⟩ : ∃ p, p = a * v := ⟨_, rfl⟩
    have hx : (a : Int) * (v : Int) = (p : Int) := by rw [hp]; push_cast; rfl
    rw [← hp] at hb ⊢
    clear hp
    have he := Lib.hid (place_num p c n (by omega) (by omega))
    have hn : (0 : Int) < (n : Int) := by omega
    go_enter Try.func53, Try.ntmps53
    go_wp2
    go_ret2
    exact ⟨ret2_u32 he.out, (Below.refl _ _).alloc (Nat.le_refl _) _⟩
theorem place (n a c v : Nat) (hn : n ≤ 4294967295) (ha : a ≤ 4294967295) (hc : c ≤ 4294967295) (hv : v ≤ 4294967295) (w : World) :
    Calls Try.prog 30 #[.agg #[.int .u32 n, .int .u32 a, .int .u32 c], .int .u32 v] w fun e w' => e = .returned (.tuple #[.int .u32 (placeV n a c v), .int .i64 (placeE n a c v)]) ∧ Below w.heap.size w w' := by
  have hC := Lib.hid (fun W => check n a c hn ha hc W)
  have hR := Lib.hid ((Below.refl w.heap.size w).alloc (Nat.le_refl _) (.cells #[.int .u32 n, .int .u32 a, .int .u32 c] 52))
  have hcell := Lib.hid (fun W' (h : Below (w.alloc (.cells #[.int .u32 n, .int .u32 a, .int .u32 c] 52)).heap.size (w.alloc (.cells #[.int .u32 n, .int .u32 a, .int .u32 c] 52)) W') o => K.row_below h (by simp) (heap_alloc_new w (.cells #[.int .u32 n, .int .u32 a, .int .u32 c] 52)) o)
  by_cases h : isOrder n a c = 0
  · have hI := Lib.hid (fun W => inner n a c v h hv W)
    have H := Lib.hid h
    clear h
    go_enter Try.func30, Try.ntmps30
    go_wp2_with fail
    refine (hC.out _).mono ?_
    rintro e w1 ⟨rfl, hw1⟩
    rw [H.out]
    have hx := hcell.out w1 hw1
    go_wp2_with fail
    refine (hI.out _).mono ?_
    rintro e w2 ⟨rfl, hw2⟩
    clear hx
    go_wp2
    go_ret2
    exact ⟨rfl, (hR.out.trans (hw1.mono (by simp))).trans (hw2.mono (by have := hw1.size; simp at this; omega))⟩
  · rw [show placeV n a c v = 0 by unfold placeV; rw [if_pos h], show placeE n a c v = 140 by unfold placeE; rw [if_pos h]]
    have H := Lib.hid (isOrder_no h)
    clear h
    go_enter Try.func30, Try.ntmps30
    go_wp2_with fail
    refine (hC.out _).mono ?_
    rintro e w1 ⟨rfl, hw1⟩
    rw [H.out]
    go_wp2
    go_ret2
    exact ⟨rfl, hR.out.trans (hw1.mono (by simp))⟩
theorem refPlace (n a c v : Nat) (hn : n ≤ 4294967295) (ha : a ≤ 4294967295) (hc : c ≤ 4294967295) (hv : v ≤ 4294967295) (w : World) :
    Calls Try.prog 31 #[.agg #[.int .u32 n, .int .u32 a, .int .u32 c], .int .u32 v] w fun e w' => e = .returned (.tuple #[.int .u32 (placeV n a c v), .int .i64 (placeE n a c v)]) ∧ Below w.heap.size w w' := by
  have hC := Lib.hid (fun W => refCheck n a c hn ha hc W)
  have hR := Lib.hid ((Below.refl w.heap.size w).alloc (Nat.le_refl _) (.cells #[.int .u32 n, .int .u32 a, .int .u32 c] 52))
  have hcell := Lib.hid (fun W' (h : Below (w.alloc (.cells #[.int .u32 n, .int .u32 a, .int .u32 c] 52)).heap.size (w.alloc (.cells #[.int .u32 n, .int .u32 a, .int .u32 c] 52)) W') o => K.row_below h (by simp) (heap_alloc_new w (.cells #[.int .u32 n, .int .u32 a, .int .u32 c] 52)) o)
  by_cases h : isOrder n a c = 0
  · obtain ⟨g1, g2, g3, g4⟩ := isOrder_yes h
    by_cases h2 : n ≤ v
    · rw [show placeV n a c v = 0 by unfold placeV; rw [if_neg (by simp [h]), if_pos h2], show placeE n a c v = 2 by unfold placeE; rw [if_neg (by simp [h]), if_pos h2]]
      have H := Lib.hid h
      clear h
      go_enter Try.func31, Try.ntmps31
      go_wp2_with fail
      refine (hC.out _).mono ?_
      rintro e w1 ⟨rfl, hw1⟩
      rw [H.out]
      have hx := hcell.out w1 hw1
      go_wp2
      go_ret2
      exact ⟨rfl, hR.out.trans (hw1.mono (by simp))⟩
    · rw [show placeV n a c v = ((a * v + c) % n : Nat) by unfold placeV; rw [if_neg (by simp [h]), if_neg h2], show placeE n a c v = 0 by unfold placeE; rw [if_neg (by simp [h]), if_neg h2]]
      have H := Lib.hid h
      clear h
      have hb : a * v ≤ 2147483647 * 2147483647 := Nat.mul_le_mul (by omega) (by omega)
      obtain ⟨p, hp⟩ : ∃ p, p = a * v := ⟨_, rfl⟩
      have hx : (a : Int) * (v : Int) = (p : Int) := by rw [hp]; push_cast; rfl
      rw [← hp] at hb ⊢
      clear hp
      have he := Lib.hid (place_num p c n (by omega) (by omega))
      have hn : (0 : Int) < (n : Int) := by omega
      go_enter Try.func31, Try.ntmps31
      go_wp2_with fail
      refine (hC.out _).mono ?_
      rintro e w1 ⟨rfl, hw1⟩
      rw [H.out]
      have hy := hcell.out w1 hw1
      go_wp2
      go_ret2
      exact ⟨ret2_u32 he.out, hR.out.trans (hw1.mono (by simp))⟩
  · rw [show placeV n a c v = 0 by unfold placeV; rw [if_pos h], show placeE n a c v = 140 by unfold placeE; rw [if_pos h]]
    have H := Lib.hid (isOrder_no h)
    clear h
    go_enter Try.func31, Try.ntmps31
    go_wp2_with fail
    refine (hC.out _).mono ?_
    rintro e w1 ⟨rfl, hw1⟩
    rw [H.out]
    go_wp2
    go_ret2
    exact ⟨rfl, hR.out.trans (hw1.mono (by simp))⟩

theorem least {P : Nat → Prop} [DecidablePred P] : ∀ j, P j → ∃ T, P T ∧ ∀ i, i < T → ¬ P i := by
  intro j
  induction j using Nat.strongRecOn with
  | ind j ih =>
    intro h
    by_cases g : ∃ i, i < j ∧ P i
    · obtain ⟨i, hi, hp⟩ := g
      exact ih i hi hp
    · exact ⟨j, h, fun i hi hp => g ⟨i, hi, hp⟩⟩
/-- The first number from s on, modulo n, that has nothing in common with n. -/
def Turn (n s T : Nat) : Prop := Nat.gcd ((s + T) % n) n = 1 ∧ ∀ j, j < T → ¬ Nat.gcd ((s + j) % n) n = 1
theorem turn (n s : Nat) (h : 1 ≤ n) : ∃ T, Turn n s T := by
  refine least (P := fun T => Nat.gcd ((s + T) % n) n = 1) (n - s % n + 1) ?_
  have hlt := Nat.mod_lt s (show 0 < n by omega)
  have e : (s + (n - s % n + 1)) % n = 1 % n := by
    have h1 : s + (n - s % n + 1) = n * (s / n + 1) + 1 := by
      have := Nat.div_add_mod s n
      rw [Nat.mul_add, Nat.mul_one]
      omega
    rw [h1, Nat.mul_add_mod]
  show Nat.gcd _ n = 1
  rw [e]
  rcases Nat.lt_or_ge 1 n with g | g
  · rw [Nat.mod_eq_of_lt g, Nat.gcd_one_left]
  · obtain rfl : n = 1 := by omega
    rfl
theorem turn_step (s i n : Nat) : ((s + i) % n + 1) % n = (s + (i + 1)) % n := by rw [Nat.mod_add_mod, Nat.add_assoc]
def RelA (n c s T B : Nat) (w : World) (g : Nat) (wr : World) : Prop := ∃ i, i + g = T ∧ wr.heap[w.heap.size]? = some (.cells #[.int .u32 0, .int .u32 0, .int .u32 0] 52 (0, 0)) ∧ wr.heap[B]? = some (.cells #[.int .u32 n, .int .u32 ((s + i) % n : Nat), .int .u32 c] 52 (0, 0)) ∧ Below w.heap.size w wr
theorem cast_dm (a b n : Nat) : ((a : Int) / (b : Int) % (n : Int)) = ((a / b % n : Nat) : Int) := by push_cast; rfl
theorem hT' {n s T : Nat} (h : Turn n s T) (i : Nat) : (i = T → Nat.gcd ((s + i) % n) n = 1) ∧ (i < T → Nat.gcd ((s + i) % n) n ≠ 1) := ⟨fun e => by rw [e]; exact h.1, fun g => h.2 i g⟩
theorem K.Row.at' {W : World} {b b' : Nat} {o : Obj} (h : W.heap[b]? = some o) (e : b = b') : W.heap[b']? = some o := e ▸ h
set_option maxRecDepth 100000 in
set_option maxHeartbeats 2000000 in
theorem rankOf (n seed s c T : Nat) (h1 : 1 ≤ n) (h2 : n ≤ 2147483647) (hs : s = seed / 4294967296 % n) (hc : c = seed % n) (hseed : seed < 18446744073709551616) (hT : Turn n s T) (w : World) :
    Calls Try.prog 32 #[.int .u32 n, .int .u64 seed] w fun e w' => e = .returned (.tuple #[.agg #[.int .u32 n, .int .u32 ((s + T) % n : Nat), .int .u32 c], .int .i64 0]) ∧ Below w.heap.size w w' := by
  have HT := Lib.hid hT
  have HS := Lib.hid hs
  have HC := Lib.hid hc
  clear hT hs hc
  have hn : (0 : Int) < (n : Int) := by omega
  go_enter Try.func32, Try.ntmps32
  have d1 : decide ((n : Int) < 1) = false := by simp; omega
  have d2 : decide (2147483647 < (n : Int)) = false := by simp; omega
  go_wp2
  go_step3
  go_wp2
  go_region
  go_wp2
  go_step3
  go_wp2
  go_loopg [27] T (fun g _ wr => RelA n c s T (w.heap.size + 1) w g wr)
  case atStart =>
    refine ⟨0, by omega, (Below.heap_alloc _ _ _ (by rw [World.size_alloc]; omega)).trans (heap_alloc_new w _), ?_, (((Below.refl _ _).alloc (Nat.le_refl _) _).alloc (by rw [World.size_alloc]; omega) _).drew⟩
    have e1 : ((seed : Int) / 4294967296 % (n : Int) % 4294967296) = ((s + 0) % n : Nat) := by
      have hlt := Nat.mod_lt (seed / 4294967296) (show 0 < n by omega)
      rw [HS.out, Nat.add_zero, Nat.mod_mod]
      have : ((seed : Int) / 4294967296 % (n : Int)) = ((seed / 4294967296 % n : Nat) : Int) := cast_dm seed 4294967296 n
      rw [this]; omega
    have e2 : ((seed : Int) % (n : Int) % 4294967296) = (c : Int) := by
      have hlt := Nat.mod_lt seed (show 0 < n by omega)
      rw [HC.out]
      have : ((seed : Int) % (n : Int)) = ((seed % n : Nat) : Int) := by push_cast; rfl
      rw [this]; omega
    rw [e1, e2]
    exact K.Row.at' (heap_alloc_new (w.alloc (.cells #[.int .u32 0, .int .u32 0, .int .u32 0] 52)) _) (by rw [World.size_alloc])
  case round =>
    obtain ⟨i, hi, hr0, hr, hl⟩ := hrel
    have hlt := Nat.mod_lt (s + i) (show 0 < n by omega)
    have hst := turn_step s i n
    obtain ⟨a, ha⟩ : ∃ a, a = (s + i) % n := ⟨_, rfl⟩
    have hgo := hT' HT.out i
    rw [← ha] at hr hlt hst hgo
    have c0 := K.row_cell hr 0
    have c1 := K.row_cell hr 1
    have c2 := K.row_cell hr 2
    have f1 : wr.frozen? ⟨w.heap.size + 1, 1, none⟩ = false := by simp [World.frozen?, hr]
    simp at c0 c1 c2
    have HA := Lib.hid ha
    have HST := Lib.hid hst
    have HR := Lib.hid hr
    have HR0 := Lib.hid hr0
    clear hr0
    have HL := Lib.hid hl
    have HI := Lib.hid hi
    have hcm := Lib.hid (fun W => common a n (by omega) (by omega) W)
    have hsz : w.heap.size + 1 < wr.heap.size := by
      rcases Nat.lt_or_ge (w.heap.size + 1) wr.heap.size with g | g
      · exact g
      · rw [Array.getElem?_eq_none g] at hr; cases hr
    clear ha hst hr hl
    obtain ⟨g, hg⟩ : ∃ g, g = Nat.gcd a n := ⟨_, rfl⟩
    rw [← hg] at hgo hcm
    have HG := Lib.hid hg
    clear hg
    rcases Nat.eq_zero_or_pos gk with h0 | h0
    · obtain rfl : i = T := by omega
      obtain rfl : g = 1 := hgo.1 rfl
      clear hgo hi
      go_wp2_with fail
      refine (hcm.out _).mono ?_
      rintro e w1 ⟨rfl, hw1⟩
      have k0 : w1.cell? ⟨w.heap.size + 1, 0, none⟩ = some (.int .u32 n) := (K.below_cell hw1 hsz 0).trans c0
      have k1 : w1.cell? ⟨w.heap.size + 1, 1, none⟩ = some (.int .u32 a) := (K.below_cell hw1 hsz 1).trans c1
      have k2 : w1.cell? ⟨w.heap.size + 1, 2, none⟩ = some (.int .u32 c) := (K.below_cell hw1 hsz 2).trans c2
      have j0 : w1.cell? ⟨w.heap.size, 0, none⟩ = some (.int .u32 0) := K.row_below hw1 (by omega) HR0.out 0
      have j1 : w1.cell? ⟨w.heap.size, 1, none⟩ = some (.int .u32 0) := K.row_below hw1 (by omega) HR0.out 1
      have j2 : w1.cell? ⟨w.heap.size, 2, none⟩ = some (.int .u32 0) := K.row_below hw1 (by omega) HR0.out 2
      have q0 : w1.frozen? ⟨w.heap.size, 0, none⟩ = false := (hw1.frozen (p := ⟨w.heap.size, 0, none⟩) (by show w.heap.size < wr.heap.size; omega)).trans (by simp [World.frozen?, HR0.out])
      have q1 : w1.frozen? ⟨w.heap.size, 1, none⟩ = false := (hw1.frozen (p := ⟨w.heap.size, 1, none⟩) (by show w.heap.size < wr.heap.size; omega)).trans (by simp [World.frozen?, HR0.out])
      have q2 : w1.frozen? ⟨w.heap.size, 2, none⟩ = false := (hw1.frozen (p := ⟨w.heap.size, 2, none⟩) (by show w.heap.size < wr.heap.size; omega)).trans (by simp [World.frozen?, HR0.out])
      have ZR := Lib.hid ((hw1.block _ (by omega)).trans HR0.out)
      have HW := Lib.hid (HL.out.trans (hw1.mono (by omega)))
      clear hw1
      go_wp2
      rw [Exit.noGoto_ret]
      have z := heap_setCell_same _ w.heap.size 2 _ _ (.int .u32 c) (heap_setCell_same _ w.heap.size 1 _ _ (.int .u32 a) (heap_setCell_same w1 w.heap.size 0 _ _ (.int .u32 n) ZR.out))
      have z0 := K.row_cell z 0
      have z1 := K.row_cell z 1
      have z2 := K.row_cell z 2
      simp only [List.setIfInBounds_toArray, List.set_cons_zero, List.set_cons_succ, List.getElem?_toArray, List.getElem?_cons_zero, List.getElem?_cons_succ] at z0 z1 z2
      refine bodyPost_ret (v := .tuple #[.agg #[.int .u32 n, .int .u32 a, .int .u32 c], .int .i64 0]) (by simp [z0, z1, z2, results, Try.results32, go_sem]) rfl ⟨by rw [← HA.out], ?_⟩
      exact ((HW.out.setCell (p := ⟨w.heap.size, 0, none⟩) (Nat.le_refl _) _).setCell (p := ⟨w.heap.size, 1, none⟩) (Nat.le_refl _) _).setCell (p := ⟨w.heap.size, 2, none⟩) (Nat.le_refl _) _
    · have hne : g ≠ 1 := hgo.2 (by omega)
      have d5 : ((g : Int) == 1) = false := by simp; omega
      clear hgo hne
      go_wp2_with fail
      refine (hcm.out _).mono ?_
      rintro e w1 ⟨rfl, hw1⟩
      have k0 : w1.cell? ⟨w.heap.size + 1, 0, none⟩ = some (.int .u32 n) := (K.below_cell hw1 hsz 0).trans c0
      have k1 : w1.cell? ⟨w.heap.size + 1, 1, none⟩ = some (.int .u32 a) := (K.below_cell hw1 hsz 1).trans c1
      have k3 : w1.frozen? ⟨w.heap.size + 1, 1, none⟩ = false := (hw1.frozen (p := ⟨w.heap.size + 1, 1, none⟩) hsz).trans f1
      go_wp2
      go_roundg (gk - 1)
      case measure => omega
      case rel =>
        have hw1s : w.heap.size + 1 < w1.heap.size := Nat.lt_of_lt_of_le hsz hw1.size
        refine ⟨i + 1, by omega, ?_, ?_, (HL.out.trans (hw1.mono (by omega))).setCell (p := ⟨w.heap.size + 1, 1, none⟩) (Nat.le_succ _) _⟩
        · exact (heap_setCell_other _ ⟨w.heap.size + 1, 1, none⟩ w.heap.size _ (by simp)).trans ((hw1.block _ (by omega)).trans HR0.out)
        · have := heap_setCell_same w1 (w.heap.size + 1) 1 _ _ (.int .u32 (((a : Int) + 1) % n)) ((hw1.block _ hsz).trans HR.out)
          rw [this]
          have e : (((a : Int) + 1) % n) = ((s + (i + 1)) % n : Nat) := by rw [← HST.out]; push_cast; rfl
          rw [e]
          rfl
theorem rankNo (n seed : Nat) (h : n < 1 ∨ 2147483647 < n) (w : World) :
    Calls Try.prog 32 #[.int .u32 n, .int .u64 seed] w fun e w' => e = .returned (.tuple #[.agg #[.int .u32 0, .int .u32 0, .int .u32 0], .int .i64 2]) ∧ Below w.heap.size w w' := by
  rcases h with h | h
  · have d1 : decide ((n : Int) < 1) = true := by simp; omega
    go_enter Try.func32, Try.ntmps32
    go_wp2
    go_step3
    go_wp2
    rw [Exit.noGoto_ret]
    refine bodyPost_ret (v := .tuple #[.agg #[.int .u32 0, .int .u32 0, .int .u32 0], .int .i64 2]) (by simp [results, Try.results32, go_sem]) rfl ⟨rfl, (Below.refl _ _).alloc (Nat.le_refl _) _⟩
  · have d1 : decide ((n : Int) < 1) = false := by simp; omega
    have d2 : decide (2147483647 < (n : Int)) = true := by simp; omega
    go_enter Try.func32, Try.ntmps32
    go_wp2
    go_step3
    go_wp2
    rw [Exit.noGoto_ret]
    refine bodyPost_ret (v := .tuple #[.agg #[.int .u32 0, .int .u32 0, .int .u32 0], .int .i64 2]) (by simp [results, Try.results32, go_sem]) rfl ⟨rfl, (Below.refl _ _).alloc (Nat.le_refl _) _⟩
theorem refRankNo (n seed : Nat) (h : n < 1 ∨ 2147483647 < n) (w : World) :
    Calls Try.prog 33 #[.int .u32 n, .int .u64 seed] w fun e w' => e = .returned (.tuple #[.agg #[.int .u32 0, .int .u32 0, .int .u32 0], .int .i64 2]) ∧ Below w.heap.size w w' := by
  rcases h with h | h
  · have d1 : decide ((n : Int) < 1) = true := by simp; omega
    go_enter Try.func33, Try.ntmps33
    go_wp2
    refine bodyPost_ret (v := .tuple #[.agg #[.int .u32 0, .int .u32 0, .int .u32 0], .int .i64 2]) (by simp [results, Try.results33, go_sem]) rfl ⟨rfl, (Below.refl _ _).alloc (Nat.le_refl _) _⟩
  · have d1 : decide ((n : Int) < 1) = false := by simp; omega
    have d2 : decide (2147483647 < (n : Int)) = true := by simp; omega
    go_enter Try.func33, Try.ntmps33
    go_wp2
    refine bodyPost_ret (v := .tuple #[.agg #[.int .u32 0, .int .u32 0, .int .u32 0], .int .i64 2]) (by simp [results, Try.results33, go_sem]) rfl ⟨rfl, (Below.refl _ _).alloc (Nat.le_refl _) _⟩
def RelB (n s T : Nat) (w : World) (g : Nat) (v : Value) (wr : World) : Prop := ∃ i, i + g = T ∧ v = .int .u64 ((s + i) % n : Nat) ∧ wr.heap[w.heap.size]? = some (.cells #[.int .u32 0, .int .u32 0, .int .u32 0] 52 (0, 0)) ∧ Below w.heap.size w wr
set_option maxRecDepth 100000 in
set_option maxHeartbeats 2000000 in
theorem refRankOf (n seed s c T : Nat) (h1 : 1 ≤ n) (h2 : n ≤ 2147483647) (hs : s = seed / 4294967296 % n) (hc : c = seed % n) (hseed : seed < 18446744073709551616) (hT : Turn n s T) (w : World) :
    Calls Try.prog 33 #[.int .u32 n, .int .u64 seed] w fun e w' => e = .returned (.tuple #[.agg #[.int .u32 n, .int .u32 ((s + T) % n : Nat), .int .u32 c], .int .i64 0]) ∧ Below w.heap.size w w' := by
  have HT := Lib.hid hT
  have HS := Lib.hid hs
  have HC := Lib.hid hc
  clear hT hs hc
  have hn : (0 : Int) < (n : Int) := by omega
  have d1 : decide ((n : Int) < 1) = false := by simp; omega
  have d2 : decide (2147483647 < (n : Int)) = false := by simp; omega
  go_enter Try.func33, Try.ntmps33
  go_wp2
  go_loopg [6] T (fun g v wr => RelB n s T w g v wr)
  case atStart =>
    refine ⟨0, by omega, ?_, heap_alloc_new w _, (Below.refl _ _).alloc (Nat.le_refl _) _⟩
    have e1 : ((seed : Int) / 4294967296 % (n : Int)) = ((s + 0) % n : Nat) := by
      rw [HS.out, Nat.add_zero, Nat.mod_mod]
      exact cast_dm seed 4294967296 n
    rw [e1]
  case round =>
    obtain ⟨i, hi, hv, hr0, hl⟩ := hrel
    have hlt := Nat.mod_lt (s + i) (show 0 < n by omega)
    have hst := turn_step s i n
    obtain ⟨a, ha⟩ : ∃ a, a = (s + i) % n := ⟨_, rfl⟩
    have hgo := hT' HT.out i
    rw [← ha] at hv hlt hst hgo
    subst hv
    have HA := Lib.hid ha
    have HST := Lib.hid hst
    have HL := Lib.hid hl
    have HI := Lib.hid hi
    have HR0 := Lib.hid hr0
    have hcm := Lib.hid (fun W => divisor a n (by omega) (by omega) W)
    have hsz : w.heap.size < wr.heap.size := by
      rcases Nat.lt_or_ge w.heap.size wr.heap.size with g | g
      · exact g
      · rw [Array.getElem?_eq_none g] at hr0; cases hr0
    clear ha hst hl hr0
    obtain ⟨g, hg⟩ : ∃ g, g = Nat.gcd a n := ⟨_, rfl⟩
    rw [← hg] at hgo hcm
    clear hg
    rcases Nat.eq_zero_or_pos gk with h0 | h0
    · obtain rfl : i = T := by omega
      obtain rfl : g = 1 := hgo.1 rfl
      clear hgo hi
      have e2 : ((seed : Int) % (n : Int) % 4294967296) = (c : Int) := by
        have hlt := Nat.mod_lt seed (show 0 < n by omega)
        rw [HC.out]
        have : ((seed : Int) % (n : Int)) = ((seed % n : Nat) : Int) := by push_cast; rfl
        rw [this]; omega
      have E2 := Lib.hid e2
      clear e2
      go_wp2_with fail
      refine (hcm.out _).mono ?_
      rintro e w1 ⟨rfl, hw1⟩
      have j0 : w1.cell? ⟨w.heap.size, 0, none⟩ = some (.int .u32 0) := K.row_below hw1 hsz HR0.out 0
      have j1 : w1.cell? ⟨w.heap.size, 1, none⟩ = some (.int .u32 0) := K.row_below hw1 hsz HR0.out 1
      have j2 : w1.cell? ⟨w.heap.size, 2, none⟩ = some (.int .u32 0) := K.row_below hw1 hsz HR0.out 2
      have q0 : w1.frozen? ⟨w.heap.size, 0, none⟩ = false := (hw1.frozen (p := ⟨w.heap.size, 0, none⟩) hsz).trans (by simp [World.frozen?, HR0.out])
      have q1 : w1.frozen? ⟨w.heap.size, 1, none⟩ = false := (hw1.frozen (p := ⟨w.heap.size, 1, none⟩) hsz).trans (by simp [World.frozen?, HR0.out])
      have q2 : w1.frozen? ⟨w.heap.size, 2, none⟩ = false := (hw1.frozen (p := ⟨w.heap.size, 2, none⟩) hsz).trans (by simp [World.frozen?, HR0.out])
      have ZR := Lib.hid ((hw1.block _ hsz).trans HR0.out)
      have HW := Lib.hid (HL.out.trans (hw1.mono (by omega)))
      clear hw1
      go_wp2
      have z := heap_setCell_same _ w.heap.size 2 _ _ (.int .u32 ((seed : Int) % (n : Int) % 4294967296)) (heap_setCell_same _ w.heap.size 1 _ _ (.int .u32 a) (heap_setCell_same w1 w.heap.size 0 _ _ (.int .u32 n) ZR.out))
      have z0 := K.row_cell z 0
      have z1 := K.row_cell z 1
      have z2 := K.row_cell z 2
      simp only [List.setIfInBounds_toArray, List.set_cons_zero, List.set_cons_succ, List.getElem?_toArray, List.getElem?_cons_zero, List.getElem?_cons_succ] at z0 z1 z2
      refine bodyPost_ret (v := .tuple #[.agg #[.int .u32 n, .int .u32 a, .int .u32 ((seed : Int) % (n : Int) % 4294967296)], .int .i64 0]) (by simp [z0, z1, z2, results, Try.results33, go_sem]) rfl ⟨by rw [← HA.out, E2.out], ?_⟩
      exact ((HW.out.setCell (p := ⟨w.heap.size, 0, none⟩) (Nat.le_refl _) _).setCell (p := ⟨w.heap.size, 1, none⟩) (Nat.le_refl _) _).setCell (p := ⟨w.heap.size, 2, none⟩) (Nat.le_refl _) _
    · have hne : g ≠ 1 := hgo.2 (by omega)
      have d5 : ((g : Int) == 1) = false := by simp; omega
      have d6 : ((g : Int) != 1) = true := by simp; omega
      clear hgo hne
      go_wp2_with fail
      refine (hcm.out _).mono ?_
      rintro e w1 ⟨rfl, hw1⟩
      go_wp2
      go_roundg (gk - 1)
      case measure => omega
      case rel =>
        have e : (((a : Int) + 1) % n) = ((s + (i + 1)) % n : Nat) := by rw [← HST.out]; push_cast; rfl
        exact ⟨i + 1, by omega, by rw [← e], (hw1.block _ hsz).trans HR0.out, HL.out.trans (hw1.mono (by omega))⟩

theorem ranks (n seed : Nat) (hseed : seed < 18446744073709551616) : ∃ x y z e : Int,
    (∀ w, Calls Try.prog 32 #[.int .u32 n, .int .u64 seed] w fun k w' => k = .returned (.tuple #[.agg #[.int .u32 x, .int .u32 y, .int .u32 z], .int .i64 e]) ∧ Below w.heap.size w w') ∧
    (∀ w, Calls Try.prog 33 #[.int .u32 n, .int .u64 seed] w fun k w' => k = .returned (.tuple #[.agg #[.int .u32 x, .int .u32 y, .int .u32 z], .int .i64 e]) ∧ Below w.heap.size w w') := by
  by_cases h : n < 1 ∨ 2147483647 < n
  · exact ⟨0, 0, 0, 2, rankNo n seed h, refRankNo n seed h⟩
  · obtain ⟨T, hT⟩ := turn n (seed / 4294967296 % n) (by omega)
    exact ⟨_, _, _, 0, rankOf n seed _ _ T (by omega) (by omega) rfl rfl hseed hT, refRankOf n seed _ _ T (by omega) (by omega) rfl rfl hseed hT⟩
theorem num (x : Int) (w : World) : Calls Try.prog 34 #[.int .i64 x] w fun e w' => e = .returned (.int .i64 x) ∧ Below w.heap.size w w' := by
  go_enter Try.func34, Try.ntmps34
  go_wp2
  go_ret
  exact ⟨rfl, Below.refl _ _⟩
set_option maxRecDepth 100000 in
set_option maxHeartbeats 4000000 in
theorem walk (n a c v m seed : Nat) (hn : n ≤ 4294967295) (ha : a ≤ 4294967295) (hc : c ≤ 4294967295) (hv : v ≤ 4294967295) (hseed : seed < 18446744073709551616) (w : World) :
    Calls Try.prog 10 #[.agg #[.int .u32 n, .int .u32 a, .int .u32 c], .int .u32 v, .int .u32 m, .int .u64 seed] w fun e w' => e = .returned (.bool true) ∧ Below w.heap.size w w' := by
  obtain ⟨x, y, z, er, hr1, hr2⟩ := ranks m seed hseed
  have HP := Lib.hid (fun W => place n a c v hn ha hc hv W)
  have HQ := Lib.hid (fun W => refPlace n a c v hn ha hc hv W)
  have HR1 := Lib.hid hr1
  have HR2 := Lib.hid hr2
  have HC := Lib.hid (fun W => check n a c hn ha hc W)
  have HD := Lib.hid (fun W => refCheck n a c hn ha hc W)
  clear hr1 hr2 hseed
  obtain ⟨pv, hpv⟩ : ∃ x, x = placeV n a c v := ⟨_, rfl⟩
  obtain ⟨pe, hpe⟩ : ∃ x, x = placeE n a c v := ⟨_, rfl⟩
  obtain ⟨io, hio⟩ : ∃ x, x = isOrder n a c := ⟨_, rfl⟩
  rw [← hpv, ← hpe] at HP HQ
  rw [← hio] at HC HD
  clear hpv hpe hio hv
  have B0 := Lib.hid ((Below.refl w.heap.size w).alloc (Nat.le_refl _) (.cells #[.int .u32 n, .int .u32 a, .int .u32 c] 52))
  have R0 := Lib.hid (heap_alloc_new w (.cells #[.int .u32 n, .int .u32 a, .int .u32 c] 52))
  go_enter Try.func10, Try.ntmps10
  go_wp2_with fail
  refine (HP.out _).mono ?_
  rintro e w1 ⟨rfl, hw1⟩
  have hs1 := hw1.size
  simp only [World.size_alloc] at hs1
  have R1 := Lib.hid ((hw1.block _ (by simp)).trans R0.out)
  have B1 := Lib.hid (B0.out.trans (hw1.mono (by simp)))
  have hx := K.row_cell R1.out
  clear hw1
  go_wp2_with fail
  refine (HQ.out _).mono ?_
  rintro e w2 ⟨rfl, hw2⟩
  have hs2 := hw2.size
  have R2 := Lib.hid ((hw2.block _ (by omega)).trans R1.out)
  have B2 := Lib.hid (B1.out.trans (hw2.mono (by omega)))
  clear hw2 hx
  go_wp2_with fail
  refine (HR1.out _).mono ?_
  rintro e w3 ⟨rfl, hw3⟩
  have hs3 := hw3.size
  have R3 := Lib.hid ((Below.heap_alloc w3 (.cells #[.int .u32 x, .int .u32 y, .int .u32 z] 52) _ (by omega)).trans ((hw3.block _ (by omega)).trans R2.out))
  have S3 := Lib.hid (heap_alloc_new w3 (.cells #[.int .u32 x, .int .u32 y, .int .u32 z] 52))
  have B3 := Lib.hid ((B2.out.trans (hw3.mono (by omega))).alloc (by omega) (.cells #[.int .u32 x, .int .u32 y, .int .u32 z] 52))
  clear hw3
  go_wp2_with fail
  refine (HR2.out _).mono ?_
  rintro e w4 ⟨rfl, hw4⟩
  have hs4 := hw4.size
  simp only [World.size_alloc] at hs4
  obtain ⟨W4, hW4⟩ : ∃ W4, W4 = w4.alloc (.cells #[.int .u32 x, .int .u32 y, .int .u32 z] 52) := ⟨_, rfl⟩
  have hz4 : W4.heap.size = w4.heap.size + 1 := by rw [hW4]; simp
  have R4 := Lib.hid (show W4.heap[w.heap.size]? = _ from hW4 ▸ (Below.heap_alloc w4 (.cells #[.int .u32 x, .int .u32 y, .int .u32 z] 52) _ (by omega)).trans ((hw4.block _ (by simp; omega)).trans R3.out))
  have S4 := Lib.hid (show W4.heap[w3.heap.size]? = _ from hW4 ▸ (Below.heap_alloc w4 (.cells #[.int .u32 x, .int .u32 y, .int .u32 z] 52) _ (by omega)).trans ((hw4.block _ (by simp)).trans S3.out))
  have T4 := Lib.hid (show W4.heap[w4.heap.size]? = _ from hW4 ▸ heap_alloc_new w4 (.cells #[.int .u32 x, .int .u32 y, .int .u32 z] 52))
  have B4 := Lib.hid (show Below w.heap.size w W4 from hW4 ▸ (B3.out.trans (hw4.mono (by simp; omega))).alloc (by omega) (.cells #[.int .u32 x, .int .u32 y, .int .u32 z] 52))
  have HA := Lib.hid (fun w' (h : Below W4.heap.size W4 w') o => K.row_below h (show w.heap.size < W4.heap.size by omega) R4.out o)
  have HB := Lib.hid (fun w' (h : Below W4.heap.size W4 w') o => K.row_below h (show w3.heap.size < W4.heap.size by omega) S4.out o)
  have HE := Lib.hid (fun w' (h : Below W4.heap.size W4 w') o => K.row_below h (show w4.heap.size < W4.heap.size by omega) T4.out o)
  clear hw4 hs1 hs2 hs3 hs4 hz4
  go_wp2_with fail
  rw [← hW4]
  clear hW4
  refine K.region_quiet (C := fun w' => Below W4.heap.size W4 w') (by kernel_rfl) (by kernel_rfl) (K.below_draw W4) ?_
  iterate 30 (first
    | (refine wpQuiet_step (fun KK hKK => ?_)
       first
         | (refine K.quiet_else ?_ (K.Puts.mk' _) ?_
            (first | rfl | (simp [Region.wanted, yielded]; done))
            refine hKK _ ?_)
         | (refine K.quiet_if ?_ ?_
            (first | rfl | (simp [Region.wanted, yielded]; done))
            first
              | (apply K.quiet_val
                 · intro w' hw'; have hx := HA.out w' hw'; have hy := HB.out w' hw'; have hz := HE.out w' hw'; go_simp; (try go_ints); exact K.Gives.mk' _ _
                 · go_simp; exact K.Puts.mk' _)
              | (apply K.quiet_call
                 · intro w' hw'; have hx := HA.out w' hw'; have hy := HB.out w' hw'; have hz := HE.out w' hw'; go_simp; (try go_ints); exact K.Enters.mk' _ _ _
                 · intro w' hw'; have hx := HA.out w' hw'; have hy := HB.out w' hw'; have hz := HE.out w' hw'; first
                   | exact K.calls_below hw' hw'.size (HC.out _)
                   | exact K.calls_below hw' hw'.size (HD.out _)
                   | exact K.calls_below hw' hw'.size (num _ _)
                 · go_simp; exact K.Puts.mk' _)
            refine hKK _ ?_)
       clear hKK KK)
    | skip)
  refine wpQuiet_nil ?_
  intro w5 hb5
  go_wp2
  go_ret
  exact ⟨rfl, B4.out.trans (hb5.mono B4.out.size)⟩
theorem own : ownKnob Try.prog.godebug = none := by kernel_rfl
set_option maxRecDepth 100000 in
theorem lifted (os : Os) (started : os.Started) (H : Type) (enc : TypeId × Value → H) :
    ReturnsInHanded {} Try.checked os 10 .any (Rows.peelsOrdersSpec.pre6 enc Try.prog Try.f10 Rows.peelsOrdersRow.domain false) (Rows.peelsOrdersSpec.post enc Try.prog Try.f10 false true false false) := by
  refine returnsInHanded_of_change_sized (C := Try.checked) own started (by kernel_rfl) Try.func10
    (ChangeSpec.witness6 (enc := enc) (C := Try.checked) false ⟨#[], #[.agg #[.int .u32 0, .int .u32 0, .int .u32 0], .int .u32 0, .int .u32 0, .int .u64 0], []⟩ 8 (by kernel_rfl) (by kernel_rfl) (by kernel_rfl) (by kernel_rfl)) ?_
  intro W base args ds gs before hval0 hW hcnd hsz0 _
  have hsz : (DataW.weightsEach Try.prog (Try.f10.params.toList ++ Rows.peelsOrdersSpec.plain.varTypes Try.prog) (ds ++ gs)).all (· ≤ reachBytes) = true := hsz0
  have hval : ∀ (j : Nat) t v, Try.f10.params[j]? = some t → args[j]? = some v → Value.okWide Try.prog W .any base t v := hval0
  have hW' := hW
  obtain ⟨p, q, hA0, hV, rfl, hfz, hnd⟩ := hW
  have hA : DataW.TrodAll enc Try.prog W 0 (fun _ => true) true Try.f10.params.toList args.toList ds p := hA0
  rw [Try.params10] at hA hval hsz
  obtain ⟨v0, vs0, d0, ds0, p0, q0, hargs, rfl, rfl, h0, r0⟩ := trodAll_cons hA
  obtain ⟨v1, vs1, d1, ds1, p1, q1, rfl, rfl, rfl, h1, r1⟩ := trodAll_cons r0
  obtain ⟨v2, vs2, d2, ds2, p2, q2, rfl, rfl, rfl, h2, r2⟩ := trodAll_cons r1
  obtain ⟨v3, vs3, d3, ds3, p3, q3, rfl, rfl, rfl, h3, r3⟩ := trodAll_cons r2
  obtain ⟨rfl, rfl, rfl⟩ := trodAll_nil r3
  obtain rfl : args = #[v0, v1, v2, v3] := by cases args; simp_all
  obtain ⟨rfl, rfl⟩ := trodVars_none hV
  have k0 := h0
  obtain ⟨cs0, rfl, m0, rfl⟩ := K.open_flat (m := 8) (ks := _) (by kernel_rfl) (by kernel_rfl) (hval 0 52 v0 rfl rfl) h0
  obtain ⟨a1, rfl, rfl, rfl, w1⟩ := open_int Try.underlying31 (hval 1 31 v1 rfl rfl) h1
  obtain ⟨a2, rfl, rfl, rfl, w2⟩ := open_int Try.underlying31 (hval 2 31 v2 rfl rfl) h2
  obtain ⟨a3, rfl, rfl, rfl, w3⟩ := open_int Try.underlying25 (hval 3 25 v3 rfl rfl) h3
  obtain ⟨x0, _, rfl, b0, m⟩ := K.matches_int m0
  obtain ⟨x1, _, rfl, b1, m⟩ := K.matches_int m
  obtain ⟨x2, _, rfl, b2, m⟩ := K.matches_int m
  obtain rfl := K.matches_nil m
  replace b0 := bounds_u32 b0
  replace b1 := bounds_u32 b1
  replace b2 := bounds_u32 b2
  have c1 := bounds_u32 w1
  have c2 := bounds_u32 w2
  have c3 := bounds_u64 w3
  obtain ⟨x0, rfl⟩ := Int.eq_ofNat_of_zero_le b0.1
  obtain ⟨x1, rfl⟩ := Int.eq_ofNat_of_zero_le b1.1
  obtain ⟨x2, rfl⟩ := Int.eq_ofNat_of_zero_le b2.1
  obtain ⟨a1, rfl⟩ := Int.eq_ofNat_of_zero_le c1.1
  obtain ⟨a2, rfl⟩ := Int.eq_ofNat_of_zero_le c2.1
  obtain ⟨a3, rfl⟩ := Int.eq_ofNat_of_zero_le c3.1
  refine (walk _ _ _ _ _ _ (by omega) (by omega) (by omega) (by omega) (by omega) W).mono fun e W' ⟨he, bel⟩ => ?_
  subst he
  exact ⟨_, rfl, _, _, _, [], _, [], hW', trodAll_mk1 (shut_bool Try.underlying4 _), (trodAll_cons_mk (Below.trod (by kernel_rfl) (by kernel_rfl) (of_decide_eq_true (by kernel_rfl)) k0 bel (fun x hx => by cases hx)) (trodAll_cons_mk (shut_int Try.underlying31 w1) (trodAll_cons_mk (shut_int Try.underlying31 w2) (trodAll_cons_mk (shut_int Try.underlying25 w3) trodAll_mk0)))), rfl, bel.frame _, fun h => by cases h⟩
theorem over : Rows.peelsOrdersRow.holds Try.pinned (OpenSpec.ofChange Rows.peelsOrdersSpec) :=
  OpenClaim.holds_of_wide 10 Try.f10 rfl rfl rfl rfl rfl rfl rfl ⟨rfl, rfl, rfl, rfl, rfl⟩ rfl rfl rfl rfl rfl (by kernel_rfl) Try.func10 (by kernel_rfl)
    (of_decide_eq_true (by kernel_rfl)) (by unfold Func.isWrapper; first | (rw [if_pos (by decide +kernel)]; kernel_rfl) | (rw [if_neg (by decide +kernel)]; exact ⟨rfl, rfl⟩))
    (fun os started H enc _ => lifted os started H enc)
theorem proved : Rows.PeelsOrdersSaid := over
#print axioms proved
end Go.Proofs.Ythdglihjnpednaa.peelsOrders
