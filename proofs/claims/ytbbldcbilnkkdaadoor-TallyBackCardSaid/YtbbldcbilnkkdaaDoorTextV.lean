/-
  The decimal text of a number of units. Plain Lean; no condition.
-/
import Derived.Test.YtbbldcbilnkkdaaDoorLen
set_option linter.unusedVariables false
set_option linter.unusedSimpArgs false
namespace Go.Proofs.YtbbldcbilnkkdaaDoor.Num

def dl : Nat → Int → List Int
  | 0, _ => []
  | f + 1, h => if h = 0 then [] else (h % 10) :: dl f (h / 10)
def fl : Nat → Int → List Int
  | 0, _ => []
  | f + 1, F => if F = 0 then [] else (F * 10 / 2 ^ 149) :: fl f (F * 10 % 2 ^ 149)
def asc (x : Int) : Int := 48 + x
def headT (H : Int) : List Int := if H = 0 then [48] else (dl 100 H).reverse.map asc
def fracT (F : Int) : List Int := if F = 0 then [] else 46 :: (fl 149 F).map asc
def signT (n : Bool) : List Int := if n then [45] else []
def textL (n : Bool) (m : Int) : List Int := signT n ++ headT (m / 2 ^ 149) ++ fracT (m % 2 ^ 149)
def b8 (x : Int) : UInt8 := UInt8.ofNat x.toNat
def textOf (n : Bool) (m : Int) : ByteArray := ⟨((textL n m).map b8).toArray⟩
theorem b8_int {x : Int} (h0 : 0 ≤ x) (h1 : x < 256) : ((b8 x).toNat : Int) = x := by
  unfold b8
  rw [UInt8.toNat_ofNat']
  omega
theorem dl_succ (f : Nat) (h : Int) : dl (f + 1) h = if h = 0 then [] else (h % 10) :: dl f (h / 10) := rfl
theorem fl_succ (f : Nat) (F : Int) : fl (f + 1) F = if F = 0 then [] else (F * 10 / 2 ^ 149) :: fl f (F * 10 % 2 ^ 149) := rfl
theorem dl_null (f : Nat) : dl f 0 = [] := by cases f <;> simp [dl]
theorem fl_null (f : Nat) : fl f 0 = [] := by cases f <;> simp [fl]
theorem dl_bound : ∀ (f : Nat) (h : Int), 0 ≤ h → ∀ x ∈ dl f h, 0 ≤ x ∧ x < 10
  | 0, _, _, x, hx => by simp [dl] at hx
  | f + 1, h, h0, x, hx => by
    unfold dl at hx
    split at hx
    · simp at hx
    · rcases List.mem_cons.1 hx with rfl | hx
      · omega
      · exact dl_bound f (h / 10) (by omega) x hx
theorem frac_step {F : Int} {i : Nat} (h0 : 0 ≤ F) (h1 : F < 2 ^ 149) (hi : F % 2 ^ i = 0) (hi9 : i < 149) :
    0 ≤ F * 10 / 2 ^ 149 ∧ F * 10 / 2 ^ 149 < 10 ∧ 0 ≤ F * 10 % 2 ^ 149 ∧ F * 10 % 2 ^ 149 < 2 ^ 149 ∧ F * 10 % 2 ^ 149 % 2 ^ (i + 1) = 0 := by
  have hP : (0 : Int) < 2 ^ 149 := pow_pos' two_pos _
  refine ⟨Int.ediv_nonneg (by omega) (by omega), Int.ediv_lt_of_lt_mul hP (by omega), Int.emod_nonneg _ (by omega), Int.emod_lt_of_pos _ hP, ?_⟩
  have e : (2 : Int) ^ (i + 1) ∣ 2 ^ 149 := ⟨2 ^ (149 - (i + 1)), by rw [← Int.pow_add]; congr 1; omega⟩
  rw [Int.emod_emod_of_dvd _ e]
  obtain ⟨k, hk⟩ := Int.dvd_of_emod_eq_zero hi
  have e2 : F * 10 = 2 ^ (i + 1) * (k * 5) := by rw [hk, Int.pow_succ, show (10 : Int) = 2 * 5 from rfl]; simp only [Int.mul_assoc, Int.mul_left_comm, Int.mul_comm]
  rw [e2, Int.mul_emod_right]
theorem frac_end {F : Int} (h0 : 0 ≤ F) (h1 : F < 2 ^ 149) (hi : F % 2 ^ 149 = 0) : F = 0 := by rwa [Int.emod_eq_of_lt h0 h1] at hi
theorem fl_bound : ∀ (f : Nat) (F : Int), 0 ≤ F → F < 2 ^ 149 → ∀ x ∈ fl f F, 0 ≤ x ∧ x < 10
  | 0, _, _, _, x, hx => by simp [fl] at hx
  | f + 1, F, h0, h1, x, hx => by
    have hP : (0 : Int) < 2 ^ 149 := pow_pos' two_pos _
    rw [fl_succ] at hx
    split at hx
    · simp at hx
    · rcases List.mem_cons.1 hx with rfl | hx
      · exact ⟨Int.ediv_nonneg (by omega) (by omega), Int.ediv_lt_of_lt_mul hP (by omega)⟩
      · exact fl_bound f _ (Int.emod_nonneg _ (by omega)) (Int.emod_lt_of_pos _ hP) x hx
theorem text_bound (n : Bool) {H F : Int} (h0 : 0 ≤ H) (f0 : 0 ≤ F) (f1 : F < 2 ^ 149) : ∀ x ∈ signT n ++ headT H ++ fracT F, 0 ≤ x ∧ x < 256 := by
  intro x hx
  rcases List.mem_append.1 hx with hx | hx
  · rcases List.mem_append.1 hx with hx | hx
    · unfold signT at hx
      split at hx
      · simp at hx; omega
      · simp at hx
    · unfold headT at hx
      split at hx
      · simp at hx; omega
      · obtain ⟨y, hy, rfl⟩ := List.mem_map.1 hx
        have := dl_bound 100 H h0 y (by simpa using hy)
        unfold asc; omega
  · unfold fracT at hx
    split at hx
    · simp at hx
    · rcases List.mem_cons.1 hx with rfl | hx
      · omega
      · obtain ⟨y, hy, rfl⟩ := List.mem_map.1 hx
        have := fl_bound 149 F f0 f1 y hy
        unfold asc; omega
end Go.Proofs.YtbbldcbilnkkdaaDoor.Num
