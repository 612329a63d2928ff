/-
  Sums of layer 2, more of the program's functions: Put. No condition.
-/
import Derived.Test.YtbbldcbilnkkdaaDoorSum2
set_option linter.unusedVariables false
set_option linter.unusedSimpArgs false
namespace Go.Proofs.YtbbldcbilnkkdaaDoor.Tly
open Go.RowKit Num

theorem mask8 (z : Int) (h0 : 0 ≤ z) (h1 : z < 4294967296) : bits .and .u32 z 255 = z % 256 := by
  rw [u32_and z 255 h0 h1 (by omega) (by omega), show (255 : Int).toNat = 255 from rfl, nat_mask8]; omega
theorem mask23 (z : Int) (h0 : 0 ≤ z) (h1 : z < 4294967296) : bits .and .u32 z 8388607 = z % 8388608 := by
  rw [u32_and z 8388607 h0 h1 (by omega) (by omega), show (8388607 : Int).toNat = 8388607 from rfl, nat_mask23]; omega
/-- A bit that stands above all others is added. -/
theorem or_top (x : Int) (k : Nat) (hk : k < 64) (h0 : 0 ≤ x) (h1 : x < 2 ^ k) : bits .or .u64 x ((2 ^ k : Nat) : Int) = x + 2 ^ k := by
  obtain ⟨n, rfl⟩ := Int.eq_ofNat_of_zero_le h0
  have hn : n < 2 ^ k := by exact_mod_cast h1
  have hp : (2 : Nat) ^ k < 18446744073709551616 := by
    have := Nat.pow_lt_pow_right (a := 2) (by omega) hk
    simpa using this
  have e := u64_or_nat n (2 ^ k) (by omega) hp
  rw [Nat.or_comm, nat_join k (2 ^ k) n (Nat.mod_self _) hn] at e
  rw [show ((n : Int)) = (n : Int) from rfl, e]
  push_cast
  omega
theorem finite_yes (u : Int) (h0 : 0 ≤ u) (h1 : u < 4294967296) (h : u / 8388608 % 256 ≠ 255) (w : World) : Calls Tryd.prog 52 #[.int .u32 u] w fun e w' => e = .returned (.bool true) ∧ w' = w := by
  have m1 := mask8 (u / 8388608) (by omega) (by omega)
  have m2 : ((u / 8388608 % 256) != 255) = true := by simpa using h
  clear h
  go_enter Tryd.func52, Tryd.ntmps52
  go_wp2
  go_ret
  exact ⟨rfl, rfl⟩
theorem finite_no (u : Int) (h0 : 0 ≤ u) (h1 : u < 4294967296) (h : u / 8388608 % 256 = 255) (w : World) : Calls Tryd.prog 52 #[.int .u32 u] w fun e w' => e = .returned (.bool false) ∧ w' = w := by
  have m1 := mask8 (u / 8388608) (by omega) (by omega)
  have m2 : ((u / 8388608 % 256) != 255) = false := by simpa using h
  clear h
  go_enter Tryd.func52, Tryd.ntmps52
  go_wp2
  go_ret
  exact ⟨rfl, rfl⟩

/-- The units of a float32. -/
def mant (u : Int) : Int := if u / 8388608 % 256 = 0 then u % 8388608 else u % 8388608 + 8388608
def shift (u : Int) : Nat := (u / 8388608 % 256).toNat - 1
def flt (u : Int) : Int := if u / 2147483648 = 1 then -(mant u * 2 ^ shift u) else mant u * 2 ^ shift u
set_option maxRecDepth 100000 in
theorem put_no (z u : Int) (h0 : 0 ≤ u) (h1 : u < 4294967296) (h : u / 8388608 % 256 = 255) (w : World) : Calls Tryd.prog 21 #[.agg (wv z), .int .u32 u] w fun e w' => e = .returned (.agg (wv z)) ∧ Below w.heap.size w w' := by
  have HA := Lib.hid ((Row.new w 26 (wv z)).alloc (.cells (cv [0, 0, 0, 0, 0, 0]) 26))
  have HZ := Lib.hid (Row.at (Row.new (w.alloc (.cells (wv z) 26)) 26 (cv [0, 0, 0, 0, 0, 0])) (b' := w.heap.size + 1) (by simp))
  have HB := Lib.hid (((Below.refl w.heap.size w).alloc (Nat.le_refl _) (.cells (wv z) 26)).alloc (by simp) (.cells (cv [0, 0, 0, 0, 0, 0]) 26))
  have H := Lib.hid h
  clear h
  go_enter Tryd.func21, Tryd.ntmps21
  go_wp2_with (first | (go_at_call 52; refine (finite_no u h0 h1 H.out _).mono ?_; rintro e w1 ⟨rfl, rfl⟩) | (refine wpList_load_row rfl 26 _ rfl (w.heap.size) rfl 26 _ (0, 0) _ HA.out Tryd.underlying26 rfl (by kernel_rfl) ?_) | (refine wpList_store_row rfl 26 _ _ rfl (w.heap.size + 1) _ rfl rfl 26 _ HZ.out ?_ ?_ ?_ ?_; kernel_rfl; (first | (rw [wv_size, wv_size]) | kernel_rfl); (first | exact cv_one _ | kernel_rfl)))
  refine bodyPost_ret (v := .agg (wv z)) (results_cell_row Tryd.results21 _ _ (w.heap.size + 1) 26 _ (0, 0) _ rfl (Row.put HZ.out _) Tryd.underlying26 rfl (by kernel_rfl)) rfl ⟨rfl, Row.put_below HB.out HZ.out (by omega) _⟩
theorem wv_def (z : Int) : wv z = cv (digs 18446744073709551616 z 6) := rfl
theorem digs_up (x : Int) (n : Nat) : digs 18446744073709551616 (18446744073709551616 * x) (n + 1) = 0 :: digs 18446744073709551616 x n := by
  rw [digs_cons q_pos, Int.mul_emod_right, Int.mul_ediv_cancel_left _ (by omega)]
theorem digs_null (n : Nat) : digs 18446744073709551616 0 n = List.replicate n 0 := by
  induction n with
  | zero => rfl
  | succ n ih => rw [digs_cons q_pos, List.replicate_succ]; simpa using ih
theorem digs_two (N : Int) (n : Nat) (h0 : 0 ≤ N) (h1 : N < 18446744073709551616 * 18446744073709551616) :
    digs 18446744073709551616 N (n + 2) = (N % 18446744073709551616) :: (N / 18446744073709551616) :: List.replicate n 0 := by
  rw [digs_cons q_pos, digs_cons q_pos]
  have a : N / 18446744073709551616 % 18446744073709551616 = N / 18446744073709551616 := by omega
  have b : N / 18446744073709551616 / 18446744073709551616 = 0 := by omega
  rw [a, b, digs_null]
theorem pow_split (M : Int) (b : Nat) (h0 : 0 ≤ M) (hb : b ≤ 64) : M * 2 ^ b / 18446744073709551616 = M / 2 ^ (64 - b) := by
  have e : (18446744073709551616 : Int) = 2 ^ (64 - b) * 2 ^ b := by rw [← Int.pow_add, Nat.sub_add_cancel hb]; rfl
  rw [e]
  exact Int.mul_ediv_mul_of_pos_left _ _ (Int.pow_pos (by decide))
theorem pow_fits (M : Int) (b : Nat) (h0 : 0 ≤ M) (h1 : M < 16777216) (hb : b < 64) : 0 ≤ M * 2 ^ b ∧ M * 2 ^ b < 18446744073709551616 * 18446744073709551616 := by
  refine ⟨Int.mul_nonneg h0 (Int.le_of_lt (Int.pow_pos (by decide))), ?_⟩
  have h : (2 : Int) ^ b ≤ 2 ^ 64 := by
    have := Nat.pow_le_pow_right (n := 2) (by omega) (show b ≤ 64 by omega)
    exact_mod_cast this
  have h2 : M * 2 ^ b ≤ M * 2 ^ 64 := Int.mul_le_mul_of_nonneg_left h h0
  have h3 : M * 2 ^ 64 < 16777216 * 2 ^ 64 := Int.mul_lt_mul_of_pos_right h1 (by decide)
  have h4 : (16777216 : Int) * 2 ^ 64 < 18446744073709551616 * 18446744073709551616 := by decide
  omega
theorem pow_low (M : Int) (b : Nat) (h0 : 0 ≤ M) (h1 : M < 16777216) (hb : b ≤ 40) : M / 2 ^ (64 - b) = 0 := by
  refine Int.ediv_eq_zero_of_lt h0 (Int.lt_of_lt_of_le h1 ?_)
  have h := Int.ofNat_le.2 (Nat.pow_le_pow_right (n := 2) (by omega) (show 24 ≤ 64 - b by omega))
  rw [Int.natCast_pow, Int.natCast_pow] at h
  exact h
theorem pow_place (M : Int) (at' b : Nat) : M * 2 ^ (64 * at' + b) = 18446744073709551616 ^ at' * (M * 2 ^ b) := by
  rw [Int.pow_add, Int.pow_mul, show (2 : Int) ^ 64 = 18446744073709551616 from rfl, Int.mul_left_comm]
theorem wv_place0 (M : Int) (b : Nat) (h0 : 0 ≤ M) (h1 : M < 16777216) (hb : b < 64) : wv (M * 2 ^ (64 * 0 + b)) = cv [M * 2 ^ b % 18446744073709551616, M / 2 ^ (64 - b), 0, 0, 0, 0] := by
  have f := pow_fits M b h0 h1 hb
  rw [pow_place, wv_def, Int.pow_zero, Int.one_mul, digs_two _ 4 f.1 f.2, pow_split M b h0 (by omega)]; rfl
theorem wv_place1 (M : Int) (b : Nat) (h0 : 0 ≤ M) (h1 : M < 16777216) (hb : b < 64) : wv (M * 2 ^ (64 * 1 + b)) = cv [0, M * 2 ^ b % 18446744073709551616, M / 2 ^ (64 - b), 0, 0, 0] := by
  have f := pow_fits M b h0 h1 hb
  rw [pow_place, wv_def, Int.pow_succ, Int.pow_zero, Int.one_mul, digs_up, digs_two _ 3 f.1 f.2, pow_split M b h0 (by omega)]; rfl
theorem wv_place2 (M : Int) (b : Nat) (h0 : 0 ≤ M) (h1 : M < 16777216) (hb : b < 64) : wv (M * 2 ^ (64 * 2 + b)) = cv [0, 0, M * 2 ^ b % 18446744073709551616, M / 2 ^ (64 - b), 0, 0] := by
  have f := pow_fits M b h0 h1 hb
  rw [pow_place, wv_def, Int.pow_succ, Int.pow_succ, Int.pow_zero, Int.one_mul, Int.mul_assoc, digs_up, digs_up, digs_two _ 2 f.1 f.2, pow_split M b h0 (by omega)]; rfl
theorem wv_place3 (M : Int) (b : Nat) (h0 : 0 ≤ M) (h1 : M < 16777216) (hb : b < 64) : wv (M * 2 ^ (64 * 3 + b)) = cv [0, 0, 0, M * 2 ^ b % 18446744073709551616, M / 2 ^ (64 - b), 0] := by
  have f := pow_fits M b h0 h1 hb
  rw [pow_place, wv_def, Int.pow_succ, Int.pow_succ, Int.pow_succ, Int.pow_zero, Int.one_mul, Int.mul_assoc, Int.mul_assoc, digs_up, digs_up, digs_up, digs_two _ 1 f.1 f.2, pow_split M b h0 (by omega)]; rfl

theorem flt_pos (u : Int) (h : ¬ u / 2147483648 = 1) : flt u = mant u * 2 ^ shift u := by unfold flt; rw [if_neg h]
theorem flt_neg (u : Int) (h : u / 2147483648 = 1) : flt u = -(mant u * 2 ^ shift u) := by unfold flt; rw [if_pos h]
set_option maxRecDepth 100000 in
set_option maxHeartbeats 4000000 in
theorem put (z u : Int) (h0 : 0 ≤ u) (h1 : u < 4294967296) (h : u / 8388608 % 256 ≠ 255) (w : World) : Calls Tryd.prog 21 #[.agg (wv z), .int .u32 u] w fun e w' => e = .returned (.agg (wv (z + flt u))) ∧ Below w.heap.size w w' := by
  have m1 := mask8 (u / 8388608) (by omega) (by omega)
  have m2 := mask23 u h0 h1
  have hm : (0 : Int) ≤ u % 8388608 ∧ u % 8388608 < 8388608 := by omega
  have hp : bits .or .u64 (u % 8388608) 8388608 = u % 8388608 + 8388608 := or_top (u % 8388608) 23 (by omega) (by omega) (by omega)
  have HA := Lib.hid ((Row.new w 26 (wv z)).alloc (.cells (cv [0, 0, 0, 0, 0, 0]) 26))
  have HZ := Lib.hid (Row.at (Row.new (w.alloc (.cells (wv z) 26)) 26 (cv [0, 0, 0, 0, 0, 0])) (b' := w.heap.size + 1) (by simp))
  have HB := Lib.hid (((Below.refl w.heap.size w).alloc (Nat.le_refl _) (.cells (wv z) 26)).alloc (by simp) (.cells (cv [0, 0, 0, 0, 0, 0]) 26))
  have HF := Lib.hid h
  clear h
  obtain ⟨V, hV⟩ : ∃ V, V = mant u * 2 ^ shift u := ⟨_, rfl⟩
  obtain ⟨F, hFl⟩ : ∃ F, F = flt u := ⟨_, rfl⟩
  have hpos : (¬ u / 2147483648 = 1) → F = V := fun h => by rw [hFl, hV, flt_pos u h]
  have hneg : u / 2147483648 = 1 → F = -V := fun h => by rw [hFl, hV, flt_neg u h]
  rw [← hFl]
  clear hFl
  have cases : (∃ M : Int, wv V = cv [M, 0, 0, 0, 0, 0] ∧ M = u % 8388608 ∧ u / 8388608 % 256 = 0) ∨
      (∃ b : Nat, b < 64 ∧ 0 < u / 8388608 % 256 ∧ (u / 8388608 % 256 - 1) % 64 = b ∧
        (((u / 8388608 % 256 - 1) / 64 = 0 ∧ wv V = cv [IntKind.u64.wrap ((u % 8388608 + 8388608) * 2 ^ b), (u % 8388608 + 8388608) / 2 ^ (64 - b), 0, 0, 0, 0]) ∨
         ((u / 8388608 % 256 - 1) / 64 = 1 ∧ wv V = cv [0, IntKind.u64.wrap ((u % 8388608 + 8388608) * 2 ^ b), (u % 8388608 + 8388608) / 2 ^ (64 - b), 0, 0, 0]) ∨
         ((u / 8388608 % 256 - 1) / 64 = 2 ∧ wv V = cv [0, 0, IntKind.u64.wrap ((u % 8388608 + 8388608) * 2 ^ b), (u % 8388608 + 8388608) / 2 ^ (64 - b), 0, 0]) ∨
         ((u / 8388608 % 256 - 1) / 64 = 3 ∧ wv V = cv [0, 0, 0, IntKind.u64.wrap ((u % 8388608 + 8388608) * 2 ^ b), (u % 8388608 + 8388608) / 2 ^ (64 - b), 0]))) := by
    by_cases he : u / 8388608 % 256 = 0
    · left
      refine ⟨_, ?_, rfl, he⟩
      rw [hV]
      unfold mant shift
      rw [he, if_pos rfl]
      show wv (u % 8388608 * 2 ^ (64 * 0 + 0)) = _
      rw [wv_place0 _ 0 hm.1 (by omega) (by omega), pow_low _ 0 hm.1 (by omega) (by omega)]
      congr 2
      omega
    · right
      have eb : 0 < u / 8388608 % 256 ∧ u / 8388608 % 256 ≤ 254 := by have := HF.out; omega
      obtain ⟨E, hE⟩ : ∃ E : Nat, u / 8388608 % 256 = E := ⟨(u / 8388608 % 256).toNat, by omega⟩
      have hs : shift u = E - 1 := by unfold shift; rw [hE]; rfl
      have hM : mant u = u % 8388608 + 8388608 := by unfold mant; rw [if_neg he]
      rw [hM, hs] at hV
      refine ⟨(E - 1) % 64, by omega, eb.1, by omega, ?_⟩
      have hE4 : (E - 1) / 64 = 0 ∨ (E - 1) / 64 = 1 ∨ (E - 1) / 64 = 2 ∨ (E - 1) / 64 = 3 := by omega
      have hq := IntKind.wrap_u64 ((u % 8388608 + 8388608) * 2 ^ ((E - 1) % 64))
      rw [hq, hV, hE]
      rcases hE4 with h | h | h | h
      · left
        refine ⟨by omega, ?_⟩
        have e : E - 1 = 64 * 0 + (E - 1) % 64 := by omega
        rw [← wv_place0 _ _ (by omega) (by omega) (by omega), ← e]
      · right; left
        refine ⟨by omega, ?_⟩
        have e : E - 1 = 64 * 1 + (E - 1) % 64 := by omega
        rw [← wv_place1 _ _ (by omega) (by omega) (by omega), ← e]
      · right; right; left
        refine ⟨by omega, ?_⟩
        have e : E - 1 = 64 * 2 + (E - 1) % 64 := by omega
        rw [← wv_place2 _ _ (by omega) (by omega) (by omega), ← e]
      · right; right; right
        refine ⟨by omega, ?_⟩
        have e : E - 1 = 64 * 3 + (E - 1) % 64 := by omega
        rw [← wv_place3 _ _ (by omega) (by omega) (by omega), ← e]
  clear hV
  by_cases hs : u / 2147483648 = 1
  · have hs' : (u / 2147483648 == 1) = true := by simp [hs]
    obtain rfl := hneg hs
    clear hpos hneg hs
    rcases cases with ⟨M, hE, rfl, he⟩ | ⟨b, hb, he, hby, ⟨hat, hE⟩ | ⟨hat, hE⟩ | ⟨hat, hE⟩ | ⟨hat, hE⟩⟩
    case' inl => have e0 : decide ((0 : Int) < u / 8388608 % 256) = false := by simp [he]
    all_goals (try have e0 : decide ((0 : Int) < u / 8388608 % 256) = true := by simp; omega)
    all_goals (try by_cases h40 : 40 < b)
    all_goals (try have h41 : decide ((40 : Int) < (b : Int)) = true := by simp; omega)
    all_goals (try (have h41 : decide ((40 : Int) < (b : Int)) = false := by simp; omega))
    all_goals (try rw [pow_low _ b (by omega) (by omega) (by omega)] at hE)
    all_goals
      have hng := fun W => neg V W
      rw [show wv V = _ from hE] at hng
      clear hE
      go_enter Tryd.func21, Tryd.ntmps21
      go_wp2_with (first | (go_at_call 52; refine (finite_yes u h0 h1 HF.out _).mono ?_; rintro e w1 ⟨rfl, rfl⟩))
      refine (hng _).mono ?_
      rintro e w1 ⟨rfl, hb1⟩
      have s1 := hb1.size
      simp only [World.size_alloc] at s1
      have HR0 := Lib.hid ((HA.out.alloc _).below hb1 (by simp; omega))
      have HR1 := Lib.hid ((HZ.out.alloc _).below hb1 (by simp))
      have HR2 := Lib.hid (Row.at ((Row.new _ _ _).below hb1 (by simp)) (b' := w.heap.size + 2) (by simp))
      have HRB := Lib.hid ((HB.out.alloc (by simp; omega) _).trans (hb1.mono (by simp; omega)))
      clear hb1 hng
      go_wp2_with (first | (refine wpList_store_row rfl 26 _ _ rfl (w.heap.size + 2) _ rfl rfl 26 _ HR2.out ?_ ?_ ?_ ?_; kernel_rfl; (first | (rw [wv_size, wv_size]) | kernel_rfl); (first | exact cv_one _ | kernel_rfl)) | (refine wpList_load_row rfl 26 _ rfl (w.heap.size) rfl 26 _ (0, 0) _ (HR0.out.put_other (by omega) _) Tryd.underlying26 rfl (by kernel_rfl) ?_) | (refine wpList_load_row rfl 26 _ rfl (w.heap.size + 2) rfl 26 _ (0, 0) _ (HR2.out.put _) Tryd.underlying26 rfl (by kernel_rfl) ?_))
      refine (merge z (-V) _).mono ?_
      rintro e w2 ⟨rfl, hb2⟩
      have HS1 := Lib.hid ((HR1.out.put_other (b' := w.heap.size + 2) (by omega) (wv (-V))).below hb2 (by simp; omega))
      have HSB := Lib.hid ((Row.put_below HRB.out HR2.out (by omega) (wv (-V))).trans (hb2.mono (by simp; omega)))
      clear hb2
      go_wp2_with (refine wpList_store_row rfl 26 _ _ rfl (w.heap.size + 1) _ rfl rfl 26 _ HS1.out ?_ ?_ ?_ ?_; kernel_rfl; (first | (rw [wv_size, wv_size]) | kernel_rfl); (first | exact cv_one _ | kernel_rfl))
      refine bodyPost_ret (v := .agg (wv (z + -V))) (results_cell_row Tryd.results21 _ _ (w.heap.size + 1) 26 _ (0, 0) _ rfl (Row.put HS1.out _) Tryd.underlying26 rfl (by kernel_rfl)) rfl ⟨rfl, Row.put_below HSB.out HS1.out (by omega) _⟩
  · have hs' : (u / 2147483648 == 1) = false := by simp [hs]
    obtain rfl := hpos hs
    clear hpos hneg hs
    rcases cases with ⟨M, hE, rfl, he⟩ | ⟨b, hb, he, hby, ⟨hat, hE⟩ | ⟨hat, hE⟩ | ⟨hat, hE⟩ | ⟨hat, hE⟩⟩
    case' inl => have e0 : decide ((0 : Int) < u / 8388608 % 256) = false := by simp [he]
    all_goals (try have e0 : decide ((0 : Int) < u / 8388608 % 256) = true := by simp; omega)
    all_goals (try by_cases h40 : 40 < b)
    all_goals (try have h41 : decide ((40 : Int) < (b : Int)) = true := by simp; omega)
    all_goals (try (have h41 : decide ((40 : Int) < (b : Int)) = false := by simp; omega))
    all_goals (try rw [pow_low _ b (by omega) (by omega) (by omega)] at hE)
    all_goals
      have hmg := fun W => merge z F W
      rw [show wv F = _ from hE] at hmg
      clear hE
      go_enter Tryd.func21, Tryd.ntmps21
      go_wp2_with (first | (go_at_call 52; refine (finite_yes u h0 h1 HF.out _).mono ?_; rintro e w1 ⟨rfl, rfl⟩) | (refine wpList_load_row rfl 26 _ rfl (w.heap.size) rfl 26 _ (0, 0) _ (HA.out.alloc _) Tryd.underlying26 rfl (by kernel_rfl) ?_))
      refine (hmg _).mono ?_
      rintro e w1 ⟨rfl, hb1⟩
      have s1 := hb1.size
      simp only [World.size_alloc] at s1
      have HR1 := Lib.hid ((HZ.out.alloc _).below hb1 (by simp))
      have HRB := Lib.hid ((HB.out.alloc (by simp; omega) _).trans (hb1.mono (by simp; omega)))
      clear hb1 hmg
      go_wp2_with (refine wpList_store_row rfl 26 _ _ rfl (w.heap.size + 1) _ rfl rfl 26 _ HR1.out ?_ ?_ ?_ ?_; kernel_rfl; (first | (rw [wv_size, wv_size]) | kernel_rfl); (first | exact cv_one _ | kernel_rfl))
      refine bodyPost_ret (v := .agg (wv (z + F))) (results_cell_row Tryd.results21 _ _ (w.heap.size + 1) 26 _ (0, 0) _ rfl (Row.put HR1.out _) Tryd.underlying26 rfl (by kernel_rfl)) rfl ⟨rfl, Row.put_below HRB.out HR1.out (by omega) _⟩
end Go.Proofs.YtbbldcbilnkkdaaDoor.Tly
