/-
  How many stages: the program's, the document's. No condition.
-/
import Derived.Test.YtepljdnhnnpdmaaShuf2
set_option linter.unusedVariables false
set_option linter.unusedSimpArgs false
namespace Go.Proofs.Ytepljdnhnnpdmaa.Shuf
open Go.RowKit Go.Shelf Go.ChangeShapes Go.WideShapes Go.ChangeAt K Desk Cut Radix

def fcode (k fan : Int) : Int := if k < 1 ∨ 512 < k then 90 else if fan < 2 ∨ 256 < fan then 92 else 0
theorem fanned (k fan : Int) (w : World) : Calls Try.prog 61 #[.int .i64 k, .int .i64 fan] w fun e w' => e = .returned (.int .i64 (fcode k fan)) ∧ w = w' := by
  unfold fcode
  by_cases h1 : k < 1
  · rw [if_pos (.inl h1)]
    go_enter Try.func61, Try.ntmps61
    go_wp2
    go_ret
    exact ⟨rfl, rfl⟩
  by_cases h2 : 512 < k
  · rw [if_pos (.inr h2)]
    go_enter Try.func61, Try.ntmps61
    go_wp2
    go_ret
    exact ⟨rfl, rfl⟩
  rw [if_neg (by omega)]
  by_cases h3 : fan < 2
  · rw [if_pos (.inl h3)]
    go_enter Try.func61, Try.ntmps61
    go_wp2
    go_ret
    exact ⟨rfl, rfl⟩
  by_cases h4 : 256 < fan
  · rw [if_pos (.inr h4)]
    go_enter Try.func61, Try.ntmps61
    go_wp2
    go_ret
    exact ⟨rfl, rfl⟩
  rw [if_neg (by omega)]
  go_enter Try.func61, Try.ntmps61
  go_wp2
  go_ret
  exact ⟨rfl, rfl⟩
def IsSt (k fan s : Nat) : Prop := k ≤ fan ^ s ∧ ∀ i, i < s → fan ^ i < k
theorem isSt_one {k fan s t : Nat} (h : IsSt k fan s) (g : IsSt k fan t) : s = t := by
  rcases Nat.lt_trichotomy s t with e | e | e
  · have := g.2 s e; have := h.1; omega
  · exact e
  · have := h.2 t e; have := g.1; omega
def RelT (k fan : Nat) (s p : Value) : Prop := ∃ (i x : Nat), x = fan ^ i ∧ (∀ j, j < i → fan ^ j < k) ∧ 1 ≤ x ∧ x ≤ 131072 ∧ i ≤ x ∧ s = .int .i64 i ∧ p = .int .i64 x
def StagesAt (k fan : Nat) (w : World) (e : Ending) (w' : World) : Prop := ∃ s : Nat, e = .returned (.tuple #[.int .i64 s, .int .i64 0]) ∧ IsSt k fan s ∧ w = w'
theorem stagesNo (k fan : Int) (h : fcode k fan ≠ 0) (w : World) : Calls Try.prog 17 #[.int .i64 k, .int .i64 fan] w fun e w' => e = .returned (.tuple #[.int .i64 0, .int .i64 (fcode k fan)]) ∧ w = w' := by
  have hf := Lib.hid (fun W => fanned k fan W)
  obtain ⟨c, hc⟩ : ∃ c, fcode k fan = c := ⟨_, rfl⟩
  rw [hc] at hf h ⊢
  have hb : (c != 0) = true := by simpa using h
  clear hc h
  go_enter Try.func17, Try.ntmps17
  go_wp2_with fail
  refine (hf.out _).mono ?_
  rintro e w1 ⟨rfl, rfl⟩
  go_wp2
  go_ret2
  exact ⟨rfl, rfl⟩
theorem refStagesNo (k fan : Int) (h : fcode k fan ≠ 0) (w : World) : Calls Try.prog 18 #[.int .i64 k, .int .i64 fan] w fun e w' => e = .returned (.tuple #[.int .i64 0, .int .i64 (fcode k fan)]) ∧ w = w' := by
  unfold fcode at h ⊢
  by_cases h1 : k < 1
  · rw [if_pos (.inl h1)]
    clear h
    go_enter Try.func18, Try.ntmps18
    go_wp2
    go_ret2
    exact ⟨rfl, rfl⟩
  by_cases h2 : 512 < k
  · rw [if_pos (.inr h2)]
    clear h
    go_enter Try.func18, Try.ntmps18
    go_wp2
    go_ret2
    exact ⟨rfl, rfl⟩
  rw [if_neg (by omega)] at h ⊢
  by_cases h3 : fan < 2
  · rw [if_pos (.inl h3)]
    clear h
    go_enter Try.func18, Try.ntmps18
    go_wp2
    go_ret2
    exact ⟨rfl, rfl⟩
  by_cases h4 : 256 < fan
  · rw [if_pos (.inr h4)]
    clear h
    go_enter Try.func18, Try.ntmps18
    go_wp2
    go_ret2
    exact ⟨rfl, rfl⟩
  rw [if_neg (by omega)] at h
  exact absurd rfl h
theorem pow_step {fan i x : Nat} (h : x = fan ^ i) : x * fan = fan ^ (i + 1) := by rw [h, Nat.pow_succ]
theorem stagesYes (k fan : Nat) (h1 : 1 ≤ k) (h2 : k ≤ 512) (h3 : 2 ≤ fan) (h4 : fan ≤ 256) (w : World) : Calls Try.prog 17 #[.int .i64 k, .int .i64 fan] w (StagesAt k fan w) := by
  have hc0 : fcode (k : Int) (fan : Int) = 0 := by unfold fcode; rw [if_neg (by omega), if_neg (by omega)]
  have hf := Lib.hid (fun W => hc0 ▸ fanned (k : Int) (fan : Int) W)
  clear hc0
  go_enter Try.func17, Try.ntmps17
  go_wp2_with fail
  refine (hf.out _).mono ?_
  rintro e w1 ⟨rfl, rfl⟩
  go_wp2
  go_loop [7, 8] (fun s p => RelT k fan s p) (fun _ p => k - (intOf p).toNat)
  case atStart => exact ⟨0, 1, rfl, fun j hj => absurd hj (Nat.not_lt_zero _), by decide, by decide, by decide, rfl, rfl⟩
  case round =>
    obtain ⟨i, x, hx, hall, hx1, hxb, hix, rfl, rfl⟩ := hrel
    rcases Nat.lt_or_ge x k with h6 | h6
    · have hkb : decide ((x : Int) < (k : Int)) = true := decide_eq_true (by omega)
      have hmul : (x : Int) * (fan : Int) = ((x * fan : Nat) : Int) := by push_cast; rfl
      have hmb : x * fan ≤ 512 * 256 := Nat.mul_le_mul (by omega) h4
      have hml : x * 2 ≤ x * fan := Nat.mul_le_mul_left _ h3
      have HX := Lib.hid (And.intro hx hall)
      obtain ⟨y, hy⟩ : ∃ y, x * fan = y := ⟨_, rfl⟩
      have HY := Lib.hid hy
      rw [hy] at hmul hmb hml
      clear hx hall hy
      go_wp2
      go_round
      case rel => exact ⟨i + 1, y, by rw [← HY.out]; exact pow_step HX.out.1, fun j hj => by
        rcases Nat.lt_or_ge j i with g | g
        · exact HX.out.2 j g
        · rw [show j = i by omega, ← HX.out.1]; exact h6, by omega, by omega, by omega, by go_num, rfl⟩
      case measure => simp [intOf]; omega
    · have hkb : decide ((x : Int) < (k : Int)) = false := decide_eq_false (by omega)
      have HX := Lib.hid (And.intro hx hall)
      clear hx hall
      go_wp2
      go_ret2
      exact ⟨i, rfl, ⟨by rw [← HX.out.1]; exact h6, HX.out.2⟩, rfl⟩
theorem refStagesYes (k fan : Nat) (h1 : 1 ≤ k) (h2 : k ≤ 512) (h3 : 2 ≤ fan) (h4 : fan ≤ 256) (w : World) : Calls Try.prog 18 #[.int .i64 k, .int .i64 fan] w (StagesAt k fan w) := by
  have d1 : decide ((k : Int) < 1) = false := decide_eq_false (by omega)
  have d2 : decide ((512 : Int) < k) = false := decide_eq_false (by omega)
  have d3 : decide ((fan : Int) < 2) = false := decide_eq_false (by omega)
  have d4 : decide ((256 : Int) < fan) = false := decide_eq_false (by omega)
  go_enter Try.func18, Try.ntmps18
  go_wp2
  go_loop [6, 7] (fun s p => RelT k fan s p) (fun _ p => k - (intOf p).toNat)
  case atStart => exact ⟨0, 1, rfl, fun j hj => absurd hj (Nat.not_lt_zero _), by decide, by decide, by decide, rfl, rfl⟩
  case round =>
    obtain ⟨i, x, hx, hall, hx1, hxb, hix, rfl, rfl⟩ := hrel
    rcases Nat.lt_or_ge x k with h6 | h6
    · have hkb : decide ((x : Int) < (k : Int)) = true := decide_eq_true (by omega)
      have hmul : (x : Int) * (fan : Int) = ((x * fan : Nat) : Int) := by push_cast; rfl
      have hmb : x * fan ≤ 512 * 256 := Nat.mul_le_mul (by omega) h4
      have hml : x * 2 ≤ x * fan := Nat.mul_le_mul_left _ h3
      have HX := Lib.hid (And.intro hx hall)
      obtain ⟨y, hy⟩ : ∃ y, x * fan = y := ⟨_, rfl⟩
      have HY := Lib.hid hy
      rw [hy] at hmul hmb hml
      clear hx hall hy
      go_wp2
      go_round
      case rel => exact ⟨i + 1, y, by rw [← HY.out]; exact pow_step HX.out.1, fun j hj => by
        rcases Nat.lt_or_ge j i with g | g
        · exact HX.out.2 j g
        · rw [show j = i by omega, ← HX.out.1]; exact h6, by omega, by omega, by omega, by go_num, rfl⟩
      case measure => simp [intOf]; omega
    · have hkb : decide ((x : Int) < (k : Int)) = false := decide_eq_false (by omega)
      have HX := Lib.hid (And.intro hx hall)
      clear hx hall
      go_wp2
      go_ret2
      exact ⟨i, rfl, ⟨by rw [← HX.out.1]; exact h6, HX.out.2⟩, rfl⟩
end Go.Proofs.Ytepljdnhnnpdmaa.Shuf
