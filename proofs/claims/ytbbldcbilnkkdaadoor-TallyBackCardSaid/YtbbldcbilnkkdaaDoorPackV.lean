/-
  What a number of units, with half a unit and a rest behind it, is rounded to. Plain Lean; no condition.
-/
import Derived.Test.YtbbldcbilnkkdaaDoorLen
set_option linter.unusedVariables false
set_option linter.unusedSimpArgs false
namespace Go.Proofs.YtbbldcbilnkkdaaDoor.Num

def roundUp (mode : Int) (neg last half rest : Bool) : Bool :=
  if mode = 0 then half && (rest || last) else if mode = 2 then neg && (half || rest) else if mode = 3 then !neg && (half || rest) else false
def pd (Q : Int) : Nat := bl Q - 24
def pr (Q : Int) (half rest : Bool) : Bool := if pd Q = 0 then rest else (rest || half || decide (Q % 2 ^ (pd Q - 1) ≠ 0))
def ph (Q : Int) (half : Bool) : Bool := if pd Q = 0 then half else decide (dig 2 Q (pd Q - 1) = 1)
def ps (Q : Int) : Int := Q / 2 ^ pd Q
def sgb (neg : Bool) : Int := if neg then 2147483648 else 0
def fin2 (neg : Bool) (s : Int) (d : Nat) : Int × Int :=
  if 8388608 ≤ s then (if 254 < d + 1 then (0, 20) else (((d : Int) + 1) * 8388608 + (s - 8388608) + sgb neg, 0)) else (s + sgb neg, 0)
def tail2 (neg up : Bool) (s : Int) (d : Nat) : Int × Int :=
  if up then (if s + 1 = 16777216 then fin2 neg 8388608 (d + 1) else fin2 neg (s + 1) d) else fin2 neg s d
def packR (neg : Bool) (Q : Int) (half rest : Bool) (mode : Int) : Int × Int :=
  tail2 neg (roundUp mode neg (decide (ps Q % 2 = 1)) (ph Q half) (pr Q half rest)) (ps Q) (pd Q)
theorem ps_bound {Q : Int} (h : 0 ≤ Q) : 0 ≤ ps Q ∧ ps Q < 16777216 := by
  have hP : (0 : Int) < 2 ^ pd Q := pow_pos' two_pos _
  refine ⟨Int.ediv_nonneg h (by omega), Int.ediv_lt_of_lt_mul hP ?_⟩
  have h1 := bl_lt h
  have h2 := pow_mono (q := 2) (m := bl Q) (n := 24 + pd Q) two_pos (by unfold pd; omega)
  rw [Int.pow_add] at h2
  exact Int.lt_of_lt_of_le h1 h2
theorem fin2_small {neg : Bool} {s : Int} {d : Nat} (h : s < 8388608) : fin2 neg s d = (s + sgb neg, 0) := by unfold fin2; rw [if_neg (by omega)]
theorem fin2_far {neg : Bool} {s : Int} {d : Nat} (h : 8388608 ≤ s) (h2 : 254 < d + 1) : fin2 neg s d = (0, 20) := by unfold fin2; rw [if_pos h, if_pos h2]
theorem fin2_great {neg : Bool} {s : Int} {d : Nat} (h : 8388608 ≤ s) (h2 : ¬ 254 < d + 1) : fin2 neg s d = (((d : Int) + 1) * 8388608 + (s - 8388608) + sgb neg, 0) := by unfold fin2; rw [if_pos h, if_neg h2]
/-- What comes out is 0 or bits of a float32. -/
theorem fin2_bound {neg : Bool} {s : Int} {d : Nat} (h0 : 0 ≤ s) (h1 : s < 16777216) : 0 ≤ (fin2 neg s d).1 ∧ (fin2 neg s d).1 < 4294967296 := by
  unfold fin2 sgb
  split
  · split
    · simp
    · cases neg <;> simp <;> omega
  · cases neg <;> simp <;> omega
theorem packR_bound (neg : Bool) {Q : Int} (half rest : Bool) (mode : Int) (h : 0 ≤ Q) : 0 ≤ (packR neg Q half rest mode).1 ∧ (packR neg Q half rest mode).1 < 4294967296 := by
  have hs := ps_bound h
  unfold packR tail2
  split
  · split
    · exact fin2_bound (by omega) (by omega)
    · exact fin2_bound (by omega) (by omega)
  · exact fin2_bound hs.1 hs.2
theorem or32_join (x y : Int) (k : Nat) (h0 : 0 ≤ x) (h1 : x < 4294967296) (hx : x % 2 ^ k = 0) (g0 : 0 ≤ y) (g1 : y < 2 ^ k) (g2 : y < 4294967296) : bits .or .u32 x y = x + y := by
  obtain ⟨n, rfl⟩ := Int.eq_ofNat_of_zero_le h0
  obtain ⟨l, rfl⟩ := Int.eq_ofNat_of_zero_le g0
  have e := u32_or_nat n l (by omega) (by omega)
  have hn : n % 2 ^ k = 0 := by exact_mod_cast hx
  have hl : l < 2 ^ k := by exact_mod_cast g1
  rw [nat_join k n l hn hl] at e
  rw [e]
  push_cast
  rfl
theorem or32_top (x : Int) (h0 : 0 ≤ x) (h1 : x < 2147483648) : bits .or .u32 x 2147483648 = x + 2147483648 := by
  obtain ⟨n, rfl⟩ := Int.eq_ofNat_of_zero_le h0
  have e := u32_or_nat n 2147483648 (by omega) (by omega)
  rw [Nat.or_comm, nat_join 31 2147483648 n (by decide) (by omega)] at e
  rw [show (2147483648 : Int) = ((2147483648 : Nat) : Int) from rfl, e, Int.natCast_add]
  exact Int.add_comm _ _
end Go.Proofs.YtbbldcbilnkkdaaDoor.Num
