/-
  RanksMix: the mixed number, the number from 0 to 1, the set: the program's answers are the document's. No condition.
-/
import Derived.Test.YthdglihjnpednaaDoorRows
import Derived.Test.YthdglihjnpednaaDoorCards
import Derived.Test.YthdglihjnpednaaDoorTie
import Derived.SevenTiedAt
import Derived.Test.YthdglihjnpednaaDoorK
import Derived.Outline
import Derived.WalkLawsBesides
import Derived.ProofKit
import Derived.LaidMore
import Derived.OpenShut
import Derived.Stop.Joined
import Derived.ChangeOld
import Derived.SizedLaws
set_option linter.unusedVariables false
set_option linter.unusedSimpArgs false
namespace Go.Proofs.YthdglihjnpednaaDoor.ranksMix
open Go.ChangeShapes Go.WideShapes Go.ChangeAt Go.RowKit Ieee

/-! ### The float's plain law -/
theorem read_mid (d : Nat) (h0 : 8388608 ≤ d) (h : d < 2139095040) : single.read d = .number false (8388608 + d % 8388608) (-149 + (d / 8388608 - 1 : Nat)) := by
  have hs : single.signWeight = 2147483648 := by decide
  have hb : single.binade = 8388608 := by decide
  have hi : single.infRung = 2139095040 := by decide
  have hl : single.leastPlace = -149 := by decide
  unfold Format.read
  rw [hs, hb, hl, hi]
  have e1 : d / 2147483648 = 0 := by omega
  have e2 : d % 2147483648 = d := by omega
  simp only [e1, e2]
  rw [if_neg (by omega), if_pos h]; rfl
theorem word_pos (n : Nat) : single.word false n = n := by unfold Format.word; rw [if_neg (by decide)]
theorem mul_def (x y : Nat) : single.mul x y = ((single.read x).product (single.read y)).map single.write := rfl
theorem product_def (m n : Nat) (i j : Int) : ((Datum.number false m i).product (.number false n j)).map single.write = some (single.nearest false (m * n) (i + j)) := rfl
theorem cut0 (n : Nat) : Toward.even.cut false n 0 = n := by
  simp [Toward.cut, Nat.mod_one]
theorem cut23 (M : Nat) (h : 8388608 ≤ M) : Toward.even.cut false (M * 8388608) 23 = M := by
  have hl : min 23 ((M * 8388608).log2 + 2) = 23 := by
    have : 23 ≤ (M * 8388608).log2 := (Nat.le_log2 (by omega)).2 (by omega)
    omega
  have g : (1 <<< 23 : Nat) = 8388608 := by decide
  simp [Toward.cut, hl, g]
theorem near (m L : Nat) (place : Int) (hm : m ≠ 0) (hL : m.log2 = L) (h23 : L ≤ 23) (hp : -149 ≤ place + L - 23) (hi : place + L ≤ 127) :
    single.nearest false m place = (place + L + 126).toNat * 8388608 + m * 2 ^ (23 - L) := by
  have hb : single.binade = 8388608 := by decide
  have hR : single.infRung = 2139095040 := by decide
  have hl : single.leastPlace = -149 := by decide
  have hf : single.fractionBits = 23 := by decide
  have hlt : m < 2 ^ (L + 1) := hL ▸ Nat.lt_log2_self
  have hM : m * 2 ^ (23 - L) < 16777216 := by
    have : m * 2 ^ (23 - L) < 2 ^ (L + 1) * 2 ^ (23 - L) := Nat.mul_lt_mul_of_pos_right hlt (Nat.two_pow_pos _)
    rwa [← Nat.pow_add, show L + 1 + (23 - L) = 24 by omega] at this
  unfold Format.nearest
  rw [if_neg hm, hb, hR, hl, hL, hf]
  have e1 : max (place + (L : Int) - ((23 : Nat) : Int)) (-149) = place + L - 23 := by omega
  simp only [e1]
  have e2 : (place - (place + (L : Int) - 23)).toNat = 23 - L := by omega
  have e3 : (place + (L : Int) - 23 - place).toNat = 0 := by omega
  have e4 : (place + (L : Int) - 23 - -149).toNat = (place + L + 126).toNat := by omega
  rw [e2, e3, e4, cut0, Nat.shiftLeft_eq]
  have e5 : (place + L + 126).toNat ≤ 253 := by omega
  generalize (place + (L : Int) + 126).toNat = A at *
  generalize m * 2 ^ (23 - L) = C at *
  have e6 : min (A * 8388608 + C) 2139095040 = A * 8388608 + C := Nat.min_eq_left (by omega)
  rw [e6]; exact word_pos _
theorem near2 (M : Nat) (place : Int) (h0 : 8388608 ≤ M) (h1 : M < 16777216) (hp : -149 ≤ place + 23) (hi : place + 23 ≤ 104) :
    single.nearest false (M * 8388608) place = (place + 172).toNat * 8388608 + M := by
  have hb : single.binade = 8388608 := by decide
  have hR : single.infRung = 2139095040 := by decide
  have hl : single.leastPlace = -149 := by decide
  have hf : single.fractionBits = 23 := by decide
  have hL : (M * 8388608).log2 = 46 := by
    rw [Nat.log2_eq_iff (by omega)]
    omega
  unfold Format.nearest
  rw [if_neg (by omega), hb, hR, hl, hL, hf]
  have e1 : max (place + ((46 : Nat) : Int) - ((23 : Nat) : Int)) (-149) = place + 23 := by omega
  simp only [e1]
  have e2 : (place - (place + 23)).toNat = 0 := by omega
  have e3 : (place + 23 - place).toNat = 23 := by omega
  have e4 : (place + 23 - -149).toNat = (place + 172).toNat := by omega
  rw [e2, e3, e4, Nat.shiftLeft_zero, cut23 M h0]
  have e5 : (place + 172).toNat ≤ 253 := by omega
  generalize (place + 172).toNat = A at *
  have e6 : min (A * 8388608 + M) 2139095040 = A * 8388608 + M := Nat.min_eq_left (by omega)
  rw [e6]; exact word_pos _
/-- A number of 24 bits times 2^-24. -/
def unitBits (m : Nat) : Nat := if m = 0 then 0 else (m.log2 + 102) * 8388608 + m * 2 ^ (23 - m.log2)
theorem unit_mul (m : Nat) (h : m < 16777216) : single.mul (single.nearest false m 0) 864026624 = some (unitBits m) := by
  by_cases hm : m = 0
  · subst hm; decide
  have hL : m.log2 ≤ 23 := by
    have := (Nat.log2_lt hm).2 (show m < 2 ^ 24 from h); omega
  obtain ⟨L, hl⟩ : ∃ L, m.log2 = L := ⟨_, rfl⟩
  rw [near m L 0 hm hl (by omega) (by omega) (by omega)]
  unfold unitBits
  rw [if_neg hm, hl]
  have hlo : 2 ^ L ≤ m := hl ▸ Nat.log2_self_le hm
  have hlt : m < 2 ^ (L + 1) := hl ▸ Nat.lt_log2_self
  obtain ⟨M, hM⟩ : ∃ M, m * 2 ^ (23 - L) = M := ⟨_, rfl⟩
  have hM1 : M < 16777216 := by
    have : m * 2 ^ (23 - L) < 2 ^ (L + 1) * 2 ^ (23 - L) := Nat.mul_lt_mul_of_pos_right hlt (Nat.two_pow_pos _)
    rw [← Nat.pow_add, show L + 1 + (23 - L) = 24 by omega] at this
    omega
  have hM0 : 8388608 ≤ M := by
    have : 2 ^ L * 2 ^ (23 - L) ≤ m * 2 ^ (23 - L) := Nat.mul_le_mul_right _ hlo
    rw [← Nat.pow_add, show L + (23 - L) = 23 by omega] at this
    omega
  rw [hM]
  have e0 : ((0 : Int) + (L : Int) + 126).toNat = L + 126 := by omega
  rw [e0]
  have r1 : single.read ((L + 126) * 8388608 + M) = .number false M ((L : Int) - 23) := by
    rw [read_mid _ (by omega) (by omega)]
    have a1 : 8388608 + ((L + 126) * 8388608 + M) % 8388608 = M := by omega
    have a2 : -149 + ((((L + 126) * 8388608 + M) / 8388608 - 1 : Nat) : Int) = (L : Int) - 23 := by omega
    rw [a1, a2]
  have r2 : single.read 864026624 = .number false 8388608 (-47) := by rw [read_mid _ (by decide) (by decide)]; rfl
  rw [mul_def, r1, r2, product_def, near2 M _ hM0 hM1 (by omega) (by omega)]
  have e9 : ((L : Int) - 23 + -47 + 172).toNat = L + 102 := by omega
  rw [e9]

/-! ### The walks -/
def st1 (s v : Int) : Int := IntKind.u64.wrap (s + IntKind.u64.wrap ((v + 1) * 11400714819323198485))
def st2 (z : Int) : Int := IntKind.u64.wrap (bits .xor .u64 z (z / 1073741824) * 13787848793156543929)
def st3 (z : Int) : Int := IntKind.u64.wrap (bits .xor .u64 z (z / 134217728) * 10723151780598845931)
def mixed (s v : Int) : Int := bits .xor .u64 (st3 (st2 (st1 s v))) (st3 (st2 (st1 s v)) / 2147483648)
theorem mixOwn (s v : Int) (hs : 0 ≤ s ∧ s ≤ 18446744073709551615) (hv : 0 ≤ v ∧ v ≤ 4294967295) (w : World) (h0 : 0 < w.heap.size)
    (c0 : w.cell? ⟨0, 0, none⟩ = some (.int .u64 11400714819323198485)) (c1 : w.cell? ⟨0, 1, none⟩ = some (.int .u64 13787848793156543929)) (c2 : w.cell? ⟨0, 2, none⟩ = some (.int .u64 10723151780598845931)) :
    Calls Tryd.prog 5 #[.int .u64 s, .int .u32 v] w fun e w' => e = .returned (.int .u64 (mixed s v)) ∧ w' = w := by
  go_enter Tryd.func5, Tryd.ntmps5
  go_wp2
  go_ret
  exact ⟨rfl, rfl⟩
theorem mixRef (s v : Int) (hs : 0 ≤ s ∧ s ≤ 18446744073709551615) (hv : 0 ≤ v ∧ v ≤ 4294967295) (w : World) :
    Calls Tryd.prog 6 #[.int .u64 s, .int .u32 v] w fun e w' => e = .returned (.int .u64 (mixed s v)) ∧ w' = w := by
  go_enter Tryd.func6, Tryd.ntmps6
  go_wp2
  go_ret
  exact ⟨rfl, rfl⟩
theorem signedYes (x : Int) (w : World) : Calls Tryd.prog 29 #[.bool false, .int .u32 x] w fun e w' => e = .returned (.int .u32 x) ∧ w' = w := by
  go_enter Tryd.func29, Tryd.ntmps29
  go_wp2
  go_ret
  exact ⟨rfl, rfl⟩
def Rel (m : Int) (L : Nat) (top x : Value) (w wr : World) : Prop := ∃ j : Nat, j ≤ L ∧ top = .int .i64 (-24 + (j : Int)) ∧ x = .int .u64 (m / 2 ^ j) ∧ wr = w
theorem half_more {m : Int} {L j : Nat} (h : (2 : Int) ^ L ≤ m) (hj : j < L) : 1 < m / 2 ^ j := by
  have hp : (0 : Int) < 2 ^ j := Int.pow_pos (by decide)
  have h1 : (2 : Int) ^ (j + 1) ≤ 2 ^ L := by exact_mod_cast Nat.pow_le_pow_right (by decide) hj
  rw [Int.pow_succ] at h1
  have : 2 ≤ m / 2 ^ j := (Int.le_ediv_iff_mul_le hp).2 (by omega)
  omega
theorem half_one {m : Int} {L : Nat} (h : (2 : Int) ^ L ≤ m) (h' : m < 2 ^ (L + 1)) : m / 2 ^ L = 1 := by
  have hp : (0 : Int) < 2 ^ L := Int.pow_pos (by decide)
  have a : 1 ≤ m / 2 ^ L := (Int.le_ediv_iff_mul_le hp).2 (by omega)
  have b : m / 2 ^ L < 2 := (Int.ediv_lt_iff_lt_mul hp).2 (by rw [Int.pow_succ] at h'; omega)
  omega
theorem half_step (m : Int) (j : Nat) : m / 2 ^ j / 2 = m / 2 ^ (j + 1) := by
  have hp : (0 : Int) ≤ 2 ^ j := Int.le_of_lt (Int.pow_pos (by decide))
  rw [Int.ediv_ediv_of_nonneg hp, Int.pow_succ]
set_option maxRecDepth 100000 in
set_option maxHeartbeats 4000000 in
theorem round (m : Int) (L : Nat) (hL : L ≤ 23) (h0 : (2 : Int) ^ L ≤ m) (h1 : m < 2 ^ (L + 1)) (hm : 1 ≤ m ∧ m < 16777216) (w : World) :
    Calls Tryd.prog 21 #[.bool false, .int .u64 m, .int .i64 (-24)] w fun e w' => e = .returned (.int .u32 (((L : Int) + 102) * 8388608 + m * 2 ^ (23 - L))) ∧ w' = w := by
  have H0 := Lib.hid h0
  have H1 := Lib.hid h1
  clear h0 h1
  have g0 : (m == 0) = false := by simp; omega
  go_enter Tryd.func21, Tryd.ntmps21
  go_wp2
  go_loopw [7, 8] (fun top x wr => Rel m L top x w wr) (fun top _ _ => L - (intOf top + 24).toNat)
  case atStart => exact ⟨0, Nat.zero_le _, rfl, by simp, rfl⟩
  case round =>
    obtain ⟨j, hj, rfl, rfl, rfl⟩ := hrel
    rcases Nat.lt_or_ge j L with hjL | hjL
    · have hx := half_more H0.out hjL
      have hxm : m / 2 ^ j ≤ m := Int.ediv_le_self _ (by omega)
      obtain ⟨x, hx'⟩ : ∃ x, x = m / 2 ^ j := ⟨_, rfl⟩
      rw [← hx'] at hx hxm ⊢
      have HX := Lib.hid hx'
      clear hx'
      go_wp2
      go_roundw
      case rel => exact ⟨j + 1, by omega, by go_num, by rw [HX.out, half_step], rfl⟩
      case measure => simp [intOf]; omega
    · obtain rfl : j = L := by omega
      have hx := half_one H0.out H1.out
      rw [hx]
      have b0 := H0.out
      have b1 := H1.out
      clear H0 H1 hx
      have hc : j = 0 ∨ j = 1 ∨ j = 2 ∨ j = 3 ∨ j = 4 ∨ j = 5 ∨ j = 6 ∨ j = 7 ∨ j = 8 ∨ j = 9 ∨ j = 10 ∨ j = 11 ∨ j = 12 ∨ j = 13 ∨ j = 14 ∨ j = 15 ∨ j = 16 ∨ j = 17 ∨ j = 18 ∨ j = 19 ∨ j = 20 ∨ j = 21 ∨ j = 22 ∨ j = 23 := by omega
      rcases hc with rfl | rfl | rfl | rfl | rfl | rfl | rfl | rfl | rfl | rfl | rfl | rfl | rfl | rfl | rfl | rfl | rfl | rfl | rfl | rfl | rfl | rfl | rfl | rfl
      all_goals
        simp only [Int.reducePow, Nat.reduceAdd, Nat.reduceSub, Int.reduceAdd, Int.reduceMul, Int.ofNat_eq_natCast, Int.reduceNatCast, Int.cast_ofNat_Int] at b0 b1 ⊢
        go_wp2_with (first | (go_at_call 29; refine (signedYes _ _).mono ?_; rintro e w1 ⟨rfl, rfl⟩) | go_in)
        all_goals (try (exfalso; omega))
        go_ret
        refine ⟨?_, rfl⟩
        show Ending.returned (Value.int IntKind.u32 _) = Ending.returned (Value.int IntKind.u32 _)
        congr 2
        simp only [Nat.reduceSub, Int.reducePow, Int.reduceAdd, Int.reduceMul, Int.ofNat_eq_natCast, Int.reduceNatCast, Int.cast_ofNat_Int, Int.natCast_zero, Int.natCast_one]
        omega
set_option maxRecDepth 100000 in
theorem roundZero (w : World) : Calls Tryd.prog 21 #[.bool false, .int .u64 0, .int .i64 (-24)] w fun e w' => e = .returned (.int .u32 0) ∧ w' = w := by
  go_enter Tryd.func21, Tryd.ntmps21
  go_wp2_with (first | (go_at_call 29; refine (signedYes _ _).mono ?_; rintro e w1 ⟨rfl, rfl⟩) | go_in)
  go_ret
  exact ⟨rfl, rfl⟩
theorem roundAll (m : Int) (h0 : 0 ≤ m) (h1 : m < 16777216) (w : World) :
    Calls Tryd.prog 21 #[.bool false, .int .u64 m, .int .i64 (-24)] w fun e w' => e = .returned (.int .u32 (unitBits m.toNat : Nat)) ∧ w' = w := by
  by_cases hm : m = 0
  · subst hm; exact roundZero w
  obtain ⟨n, rfl⟩ := Int.eq_ofNat_of_zero_le h0
  have hn : n ≠ 0 := by omega
  have hlo : 2 ^ n.log2 ≤ n := Nat.log2_self_le hn
  have hlt : n < 2 ^ (n.log2 + 1) := Nat.lt_log2_self
  have hL : n.log2 ≤ 23 := by
    have := (Nat.log2_lt hn).2 (show n < 2 ^ 24 by omega); omega
  have e : ((unitBits (n : Int).toNat : Nat) : Int) = ((n.log2 : Int) + 102) * 8388608 + (n : Int) * 2 ^ (23 - n.log2) := by
    rw [Int.toNat_natCast]
    unfold unitBits
    rw [if_neg hn]
    simp only [Int.natCast_add, Int.natCast_mul, Int.natCast_pow, Int.cast_ofNat_Int]
  rw [e]
  exact round n n.log2 hL (by exact_mod_cast hlo) (by exact_mod_cast hlt) (by omega) w
theorem mixed_bounds (s v : Int) : 0 ≤ mixed s v ∧ mixed s v ≤ 18446744073709551615 := bits_within .xor .u64 _ _
theorem unitRef (s v : Int) (hs : 0 ≤ s ∧ s ≤ 18446744073709551615) (hv : 0 ≤ v ∧ v ≤ 4294967295) (w : World) :
    Calls Tryd.prog 8 #[.int .u64 s, .int .u32 v] w fun e w' => e = .returned (.int .u32 (unitBits (mixed s v / 1099511627776).toNat : Nat)) ∧ w' = w := by
  have hM := fun w => mixRef s v hs hv w
  have hz := mixed_bounds s v
  obtain ⟨z, hz'⟩ : ∃ z, z = mixed s v := ⟨_, rfl⟩
  rw [← hz'] at hM hz ⊢
  clear hz'
  go_enter Tryd.func8, Tryd.ntmps8
  go_wp2_with fail
  refine (hM _).mono ?_
  rintro e w1 ⟨rfl, rfl⟩
  go_wp2_with fail
  refine (roundAll _ (by omega) (by omega) _).mono ?_
  rintro e w1 ⟨rfl, rfl⟩
  go_wp2
  go_ret
  exact ⟨rfl, rfl⟩
theorem grainBits (x : Nat) (w : World) : Calls Tryd.prog 20 #[.float .f32 x] w fun e w' => e = .returned (.int .u32 (x : Int)) ∧ w' = w := by
  have hx : ∀ W, (callFunc 28 #[.float .f32 x]).run Tryd.prog W = .ok (.value (.int .u32 (x : Int))) W := fun W => by
    rw [run_callFunc_extern (P := Tryd.prog) Tryd.func28 (by kernel_rfl) (by kernel_rfl) (by kernel_rfl) (e := Extern.MathFloatBits.float32bits) (by kernel_rfl)]; rfl
  go_enter Tryd.func20, Tryd.ntmps20
  go_wp2
  go_ret
  exact ⟨rfl, rfl⟩
theorem unitOwn (s v : Int) (hs : 0 ≤ s ∧ s ≤ 18446744073709551615) (hv : 0 ≤ v ∧ v ≤ 4294967295) (w : World) (h0 : 0 < w.heap.size)
    (c0 : w.cell? ⟨0, 0, none⟩ = some (.int .u64 11400714819323198485)) (c1 : w.cell? ⟨0, 1, none⟩ = some (.int .u64 13787848793156543929)) (c2 : w.cell? ⟨0, 2, none⟩ = some (.int .u64 10723151780598845931)) :
    Calls Tryd.prog 7 #[.int .u64 s, .int .u32 v] w fun e w' => e = .returned (.int .u32 (unitBits (mixed s v / 1099511627776).toNat : Nat)) ∧ w' = w := by
  have hM := mixOwn s v hs hv w h0 c0 c1 c2
  clear c0 c1 c2
  have hz := mixed_bounds s v
  obtain ⟨z, hz'⟩ : ∃ z, z = mixed s v := ⟨_, rfl⟩
  rw [← hz'] at hM hz ⊢
  clear hz'
  obtain ⟨f, hf⟩ : ∃ f, f = floatOfInt .f32 (z / 1099511627776) := ⟨_, rfl⟩
  have hcv : ∀ W, (convert 22 36 (.int .u64 (z / 1099511627776))).run Tryd.prog W = .ok (.float .f32 f) W := fun W => by
    rw [hf]; exact run_convert_int_float W _ _ _ _ _ (by kernel_rfl) Tryd.underlying36
  have hmul : ∀ W, (binOp .mul 36 (.float .f32 f) (.float .f32 864026624)).run Tryd.prog W = .ok (.float .f32 (unitBits (z / 1099511627776).toNat)) W := fun W => by
    refine run_float_arith W .mul _ .f32 _ _ _ ?_
    show single.mul f 864026624 = _
    have e : f = single.nearest false (z / 1099511627776).toNat 0 := by
      rw [hf]
      have h1 : ¬ z / 1099511627776 < 0 := by omega
      have h2 : (z / 1099511627776).natAbs = (z / 1099511627776).toNat := by omega
      unfold floatOfInt
      show single.nearest (decide (z / 1099511627776 < 0)) (z / 1099511627776).natAbs 0 = _
      rw [decide_eq_false h1, h2]
    rw [e]
    exact unit_mul _ (by omega)
  clear hf
  obtain ⟨u, hu⟩ : ∃ u, u = unitBits (z / 1099511627776).toNat := ⟨_, rfl⟩
  rw [← hu] at hmul ⊢
  clear hu
  go_enter Tryd.func7, Tryd.ntmps7
  go_wp2_with fail
  refine hM.mono ?_
  rintro e w1 ⟨rfl, rfl⟩
  go_wp2_with fail
  refine (grainBits u _).mono ?_
  rintro e w1 ⟨rfl, rfl⟩
  go_wp2
  go_ret
  exact ⟨rfl, rfl⟩
theorem insideRef (s v : Int) (hs : 0 ≤ s ∧ s ≤ 18446744073709551615) (hv : 0 ≤ v ∧ v ≤ 4294967295) (w : World) :
    Calls Tryd.prog 10 #[.int .u64 s, .int .u32 v] w fun e w' => e = .returned (.bool (mixed s v % 2 == 1)) ∧ w' = w := by
  have hM := fun w => mixRef s v hs hv w
  have hz := mixed_bounds s v
  obtain ⟨z, hz'⟩ : ∃ z, z = mixed s v := ⟨_, rfl⟩
  rw [← hz'] at hM hz ⊢
  clear hz'
  go_enter Tryd.func10, Tryd.ntmps10
  go_wp2_with fail
  refine (hM _).mono ?_
  rintro e w1 ⟨rfl, rfl⟩
  go_wp2
  go_ret
  exact ⟨rfl, rfl⟩
theorem insideOwn (s v : Int) (hs : 0 ≤ s ∧ s ≤ 18446744073709551615) (hv : 0 ≤ v ∧ v ≤ 4294967295) (w : World) (h0 : 0 < w.heap.size)
    (c0 : w.cell? ⟨0, 0, none⟩ = some (.int .u64 11400714819323198485)) (c1 : w.cell? ⟨0, 1, none⟩ = some (.int .u64 13787848793156543929)) (c2 : w.cell? ⟨0, 2, none⟩ = some (.int .u64 10723151780598845931)) :
    Calls Tryd.prog 9 #[.int .u64 s, .int .u32 v] w fun e w' => e = .returned (.bool (mixed s v % 2 == 1)) ∧ w' = w := by
  have hM := mixOwn s v hs hv w h0 c0 c1 c2
  clear c0 c1 c2
  have hz := mixed_bounds s v
  obtain ⟨z, hz'⟩ : ∃ z, z = mixed s v := ⟨_, rfl⟩
  rw [← hz'] at hM hz ⊢
  clear hz'
  have hb : bits .and .u64 z 1 = z % 2 := and_one_u64 z hz.1 hz.2
  go_enter Tryd.func9, Tryd.ntmps9
  go_wp2_with fail
  refine hM.mono ?_
  rintro e w1 ⟨rfl, rfl⟩
  go_wp2
  go_ret
  exact ⟨rfl, rfl⟩
set_option maxRecDepth 100000 in
theorem walk (s v : Int) (hs : 0 ≤ s ∧ s ≤ 18446744073709551615) (hv : 0 ≤ v ∧ v ≤ 4294967295) (w : World) (h0 : 0 < w.heap.size)
    (c0 : w.cell? ⟨0, 0, none⟩ = some (.int .u64 11400714819323198485)) (c1 : w.cell? ⟨0, 1, none⟩ = some (.int .u64 13787848793156543929)) (c2 : w.cell? ⟨0, 2, none⟩ = some (.int .u64 10723151780598845931)) :
    Calls Tryd.prog 3 #[.int .u64 s, .int .u32 v] w fun e w' => e = .returned (.bool true) ∧ w' = w := by
  have A1 := mixOwn s v hs hv w h0 c0 c1 c2
  have A2 := mixRef s v hs hv w
  have A3 := unitOwn s v hs hv w h0 c0 c1 c2
  have A4 := unitRef s v hs hv w
  have A5 := insideOwn s v hs hv w h0 c0 c1 c2
  have A6 := insideRef s v hs hv w
  obtain ⟨z, hz⟩ : ∃ z, z = mixed s v := ⟨_, rfl⟩
  rw [← hz] at A1 A2 A3 A4 A5 A6
  obtain ⟨u, hu⟩ : ∃ u : Int, u = (unitBits (z / 1099511627776).toNat : Nat) := ⟨_, rfl⟩
  rw [← hu] at A3 A4
  obtain ⟨b, hb⟩ : ∃ b, b = (z % 2 == 1) := ⟨_, rfl⟩
  rw [← hb] at A5 A6
  clear hz hu hb c0 c1 c2
  go_enter Tryd.func3, Tryd.ntmps3
  go_wp2_with (first
    | (go_at_call 5; refine A1.mono ?_; rintro e w1 ⟨rfl, rfl⟩)
    | (go_at_call 6; refine A2.mono ?_; rintro e w1 ⟨rfl, rfl⟩)
    | (go_at_call 7; refine A3.mono ?_; rintro e w1 ⟨rfl, rfl⟩)
    | (go_at_call 8; refine A4.mono ?_; rintro e w1 ⟨rfl, rfl⟩)
    | (go_at_call 9; refine A5.mono ?_; rintro e w1 ⟨rfl, rfl⟩)
    | (go_at_call 10; refine A6.mono ?_; rintro e w1 ⟨rfl, rfl⟩))
  go_ret
  exact ⟨rfl, rfl⟩

/-! ### What the variable holds -/
theorem gMix : Tryd.prog.globalNamed "sluice/ranks.mixing" = some 0 := by kernel_rfl
theorem tMix : (Tryd.prog.globals[0]?).map (·.type) = some 33 := by kernel_rfl
def laid1 {H : Type} : List (String × DataW H) := [("sluice/ranks.mixing", Rows.laid_sluice_ranks_mixing)]
theorem own : ownKnob Tryd.prog.godebug = none := by kernel_rfl
theorem door_met (os : Os) (args : Array Value) : laidMetH Tryd.prog laid1 ((World.doorLaid Tryd.prog 400 os).forCall (fun _ _ => 0) ⟨#[], args, []⟩).memory :=
  laidMetH_of_parts3 (fuel := 8) (laidMet_of_run' 8 (by kernel_rfl) (by kernel_rfl)) (by kernel_rfl) (by kernel_rfl)
theorem of_laid {W : World} (h : laidMetH Tryd.prog laid1 W) : W.cell? ⟨0, 0, none⟩ = some (.int .u64 11400714819323198485) ∧ W.cell? ⟨0, 1, none⟩ = some (.int .u64 13787848793156543929) ∧ W.cell? ⟨0, 2, none⟩ = some (.int .u64 10723151780598845931) := by
  rw [MakeChecks.laidMetH_plain _ _ _ (by kernel_rfl)] at h
  obtain ⟨ps, ⟨g0, t0, cs0, f0, p0, q0, hg0, ht0, hv0, hd0, _, _⟩, _, _⟩ := h
  obtain rfl := Option.some.inj (gMix.symm.trans hg0)
  obtain rfl := Option.some.inj (tMix.symm.trans ht0)
  obtain ⟨xs, m1, rfl, hx1, hlen, hn3, hel⟩ := DataW.trod_array Tryd.underlying33 hd0
  have c3 : Tryd.prog.cellsOf 22 = 1 := by kernel_rfl
  have h0 := hel 0 (by decide)
  have h1 := hel 1 (by decide)
  have h2 := hel 2 (by decide)
  simp only [Prod.mk.injEq, DataW.agg.injEq] at hx1
  match xs, hn3, hx1, h0, h1, h2 with
  | [x0, x1, x2], _, hx1, h0, h1, h2 =>
    simp only [Rows.laid_sluice_ranks_mixing, List.map_cons, List.map_nil, List.cons.injEq, DataW.agg.injEq] at hx1
    obtain ⟨k0, e0, f0, _⟩ := DataW.trod_int Tryd.underlying22 (show DataW.trod _ Tryd.prog W 0 _ false m1 22 _ = some x0 from h0)
    obtain ⟨k1, e1, f1, _⟩ := DataW.trod_int Tryd.underlying22 (show DataW.trod _ Tryd.prog W 0 _ false m1 22 _ = some x1 from h1)
    obtain ⟨k2, e2, f2, _⟩ := DataW.trod_int Tryd.underlying22 (show DataW.trod _ Tryd.prog W 0 _ false m1 22 _ = some x2 from h2)
    have hk0 : k0 = 11400714819323198485 := by rw [f0] at hx1; simpa using hx1.1.1.symm
    have hk1 : k1 = 13787848793156543929 := by rw [f1] at hx1; simpa using hx1.1.2.1.symm
    have hk2 : k2 = 10723151780598845931 := by rw [f2] at hx1; simpa using hx1.1.2.2.1.symm
    subst hk0 hk1 hk2
    have g0 := World.var?_cell hg0 hv0 0
    have g1 := World.var?_cell hg0 hv0 1
    have g2 := World.var?_cell hg0 hv0 2
    obtain ⟨l1⟩ := cs0
    rw [c3] at e0 e1 e2
    match l1, e0, e1, e2 with
    | [], e0, _, _ => simp at e0
    | [a], _, e1, _ => simp at e1
    | [a, b], _, _, e2 => simp at e2
    | a :: b :: c :: l, e0, e1, e2 =>
      simp at e0 e1 e2
      subst e0 e1 e2
      exact ⟨by simpa using g0, by simpa using g1, by simpa using g2⟩

set_option maxRecDepth 100000 in
theorem lifted (os : Os) (started : os.Started) (H : Type) (enc : TypeId × Value → H) :
    ReturnsInHanded {} Tryd.checked os 3 .any (fun w args => (Rows.ranksMixSpec.pre enc Tryd.prog Tryd.f3 [] false w args ∧ laidMetH Tryd.prog laid1 w) ∧ sizedMet enc Tryd.prog Tryd.f3 (OpenSpec.ofChange Rows.ranksMixSpec) false w args)
      (Rows.ranksMixSpec.post enc Tryd.prog Tryd.f3 false true false false) := by
  refine returnsInHanded_of_change_and (C := Tryd.checked) (X := fun w _ => laidMetH Tryd.prog laid1 w) (fun _ _ _ hh h => h.of_heap hh) own started (by kernel_rfl) Tryd.func3
    (ChangeSpec.witness_shaped (enc := enc) (C := Tryd.checked) (os := os) (X := fun w _ => laidMetH Tryd.prog laid1 w) false (World.doorLaid Tryd.prog 400 os) #[.int .u64 0, .int .u32 0] 8 rfl (World.shaped_of_RefB (by kernel_rfl) (by kernel_rfl)) (by kernel_rfl) (by kernel_rfl) (by kernel_rfl) (door_met os _)) ?_
  intro W base args ds gs before hval0 hW _ _ hL _
  have hval : ∀ (j : Nat) t v, Tryd.f3.params[j]? = some t → args[j]? = some v → Value.okWide Tryd.prog W .any base t v := hval0
  have hW' := hW
  obtain ⟨p, q, hA0, hV, rfl, hfz, hnd⟩ := hW
  have hA : DataW.TrodAll enc Tryd.prog W 0 (fun _ => true) true Tryd.f3.params.toList args.toList ds p := hA0
  rw [Tryd.params3] at hA hval
  obtain ⟨v0, vs0, d0, ds0, p0, q0, hargs, rfl, rfl, h0, r0⟩ := trodAll_cons hA
  obtain ⟨v1, vs1, d1, ds1, p1, q1, rfl, rfl, rfl, h1, r1⟩ := trodAll_cons r0
  obtain ⟨rfl, rfl, rfl⟩ := trodAll_nil r1
  obtain rfl : args = #[v0, v1] := by cases args; simp_all
  obtain ⟨rfl, rfl⟩ := trodVars_none hV
  obtain ⟨a0, rfl, rfl, rfl, w0⟩ := open_int Tryd.underlying22 (hval 0 22 v0 rfl rfl) h0
  obtain ⟨a1, rfl, rfl, rfl, w1⟩ := open_int Tryd.underlying23 (hval 1 23 v1 rfl rfl) h1
  obtain ⟨c0, c1, c2⟩ := of_laid hL
  have hz : 0 < W.heap.size := by
    rcases Nat.eq_zero_or_pos W.heap.size with h | h
    · exfalso
      unfold World.cell? at c0
      rw [Array.getElem?_eq_none (by omega)] at c0
      simp at c0
    · exact h
  clear hA0 hval0
  simp only [List.append_nil] at hW'
  refine (walk a0 a1 (bounds_u64 w0) (bounds_u32 w1) W hz c0 c1 c2).mono fun e W' ⟨he, hw⟩ => ?_
  subst he; subst hw
  exact ⟨_, rfl, post_of_same (pa := []) (pv := []) hW' (fun _ _ _ => trodAll_mk1 (shut_bool Tryd.underlying4 _)) (fun sp _ => trodAll_cons_mk (shut_int Tryd.underlying22 w0) (trodAll_cons_mk (shut_int Tryd.underlying23 w1) trodAll_mk0)) (fun _ _ => rfl) rfl (World.keptBut_refl _ _) (fun _ => rfl) (ok_one (by kernel_rfl) rfl (okWide_bool_mk Tryd.underlying4 _))⟩
theorem over : Rows.RanksMixSaid :=
  OpenClaim.holds_of_wide 3 Tryd.f3 rfl rfl rfl rfl rfl rfl rfl ⟨rfl, rfl, rfl, rfl, rfl⟩ rfl rfl rfl rfl rfl (by kernel_rfl) Tryd.func3 (by kernel_rfl)
    (of_decide_eq_true (by kernel_rfl)) (by unfold Func.isWrapper; first | (rw [if_pos (by decide +kernel)]; kernel_rfl) | (rw [if_neg (by decide +kernel)]; exact ⟨rfl, rfl⟩))
    (fun os started H enc _ => lifted os started H enc)
#print axioms over
/-- The tied card. -/
theorem proved : Rows.RanksMixCardSaid :=
  Claim7.holds_tied_plain_at .later [] [.data] true Rows.ranksMixCard.stood.harness false
    over (fun _ h => by cases h) (by kernel_rfl) (fun _ h => by cases h) ranksMix_row_tie rfl ⟨rfl, rfl⟩ (by kernel_rfl) rfl
    (fun f fn hf hfn => by
      obtain rfl : f = 3 := Option.some.inj ((show Tryd.prog.funcNamed "sluice/sluicelaw15.RanksMix" = some 3 by kernel_rfl).symm.trans hf) |>.symm
      obtain rfl : fn = Tryd.f3 := (Option.some.inj (Tryd.func3.symm.trans hfn)).symm
      exact ⟨by kernel_rfl, fun j t ht => by
        rw [Tryd.params3] at ht
        have hm : t ∈ [22, 23] := by simpa using Array.mem_of_getElem? ht
        have hall : ([22, 23].all fun u => !Tryd.prog.wantsStandIn u) = true := by kernel_rfl
        exact (show Tryd.prog.wantsStandIn t = false by simpa using List.all_eq_true.1 hall t hm)⟩)
    (by kernel_rfl)
#print axioms proved
end Go.Proofs.YthdglihjnpednaaDoor.ranksMix
