/-
  The text of a sum leads back to it: the plain law. No condition.
-/
import Derived.Test.YtbbldcbilnkkdaaDoorFromT
import Derived.Test.YtbbldcbilnkkdaaDoorTextV
import Derived.Test.YtbbldcbilnkkdaaDoorReck6
set_option linter.unusedVariables false
set_option linter.unusedSimpArgs false
namespace Go.Proofs.YtbbldcbilnkkdaaDoor.Parse
open Num Reck

def dval (l : List Int) : Int := l.foldl (fun n x => 10 * n + x) 0
theorem dval_from : ∀ (l : List Int) (n : Int), l.foldl (fun n x => 10 * n + x) n = n * 10 ^ l.length + dval l
  | [], n => by simp [dval]
  | x :: l, n => by
    unfold dval
    rw [List.foldl_cons, List.foldl_cons, dval_from l, dval_from l (10 * 0 + x), List.length_cons, Int.pow_succ]
    generalize (10 : Int) ^ l.length = P
    rw [Int.add_mul, Int.add_mul, show 10 * n * P = n * (P * 10) by rw [Int.mul_comm 10 n, Int.mul_assoc, Int.mul_comm 10 P]]
    omega
theorem dval_append (a b : List Int) : dval (a ++ b) = dval a * 10 ^ b.length + dval b := by
  unfold dval
  rw [List.foldl_append, dval_from]
  rfl
theorem dval_cons (x : Int) (l : List Int) : dval (x :: l) = x * 10 ^ l.length + dval l := by
  have := dval_append [x] l
  rw [List.singleton_append] at this
  rw [this]
  unfold dval
  simp
theorem nval_from : ∀ (l : List UInt8) (n : Int), l.foldl (fun n c => 10 * n + ((c.toNat : Int) - 48)) n = n * 10 ^ l.length + nval l
  | [], n => by simp [nval]
  | x :: l, n => by
    unfold nval
    rw [List.foldl_cons, List.foldl_cons, nval_from l, nval_from l (10 * 0 + ((x.toNat : Int) - 48)), List.length_cons, Int.pow_succ]
    generalize (10 : Int) ^ l.length = P
    rw [Int.add_mul, Int.add_mul, show 10 * n * P = n * (P * 10) by rw [Int.mul_comm 10 n, Int.mul_assoc, Int.mul_comm 10 P]]
    omega
theorem nval_append (a b : List UInt8) : nval (a ++ b) = nval a * 10 ^ b.length + nval b := by
  unfold nval
  rw [List.foldl_append, nval_from]
  rfl
theorem nval_zeros : ∀ (l : List UInt8), (∀ c ∈ l, c = 48) → nval l = 0
  | [], _ => rfl
  | c :: l, h => by
    have h1 := nval_append [c] l
    rw [List.singleton_append] at h1
    rw [h1, nval_zeros l (fun x hx => h x (List.mem_cons_of_mem _ hx)), h c List.mem_cons_self]
    have : nval [48] = 0 := by decide
    rw [this]; simp
theorem nval_drop (l : List UInt8) : nval (l.dropWhile (· == 48)) = nval l := by
  have h := List.takeWhile_append_dropWhile (p := (· == (48 : UInt8))) (l := l)
  have h2 := List.all_takeWhile (l := l) (p := (· == (48 : UInt8)))
  rw [List.all_eq_true] at h2
  have h3 := nval_append (l.takeWhile (· == 48)) (l.dropWhile (· == 48))
  rw [h, nval_zeros (l.takeWhile (· == 48)) (fun c hc => by simpa using h2 c hc)] at h3
  omega
theorem nval_trim (g : List UInt8) : nval g = nval (Lib.trimRightB g 48) * 10 ^ (g.length - (Lib.trimRightB g 48).length) ∧ (Lib.trimRightB g 48).length ≤ g.length := by
  have h := trim_split g
  have hl := congrArg List.length h
  rw [List.length_append] at hl
  have h2 := List.all_takeWhile (l := g.reverse) (p := (· == (48 : UInt8)))
  rw [List.all_eq_true] at h2
  have h3 := nval_append (Lib.trimRightB g 48) (g.reverse.takeWhile (· == 48)).reverse
  rw [← h, nval_zeros (g.reverse.takeWhile (· == 48)).reverse (fun c hc => by simpa using h2 c (List.mem_reverse.1 hc)), Int.add_zero] at h3
  refine ⟨?_, by omega⟩
  rw [show g.length - (Lib.trimRightB g 48).length = (g.reverse.takeWhile (· == 48)).reverse.length by omega]
  exact h3
def bd (x : Int) : UInt8 := b8 (asc x)
theorem bd_int {x : Int} (h0 : 0 ≤ x) (h1 : x < 10) : ((bd x).toNat : Int) = 48 + x := by unfold bd asc; exact b8_int (by omega) (by omega)
theorem bd_dig {x : Int} (h0 : 0 ≤ x) (h1 : x < 10) : isDig (bd x) = true := by
  have := bd_int h0 h1
  unfold isDig
  rw [Bool.and_eq_true, decide_eq_true_eq, decide_eq_true_eq]
  omega
theorem nval_bd : ∀ (l : List Int), (∀ x ∈ l, 0 ≤ x ∧ x < 10) → nval (l.map bd) = dval l
  | [], _ => rfl
  | x :: l, h => by
    have h1 := nval_append [bd x] (l.map bd)
    rw [List.singleton_append] at h1
    rw [List.map_cons, h1, nval_bd l (fun y hy => h y (List.mem_cons_of_mem _ hy)), dval_cons, List.length_map]
    have h2 := bd_int (h x List.mem_cons_self).1 (h x List.mem_cons_self).2
    have : nval [bd x] = x := by unfold nval; simp only [List.foldl_cons, List.foldl_nil]; omega
    rw [this]
theorem alldig_bd (l : List Int) (h : ∀ x ∈ l, 0 ≤ x ∧ x < 10) : AllDig (l.map bd) := alldig_of_mem (fun c hc => by
  obtain ⟨x, hx, rfl⟩ := List.mem_map.1 hc
  exact bd_dig (h x hx).1 (h x hx).2)
theorem dl_val : ∀ (f : Nat) (H : Int), 0 ≤ H → H < 10 ^ f → dval (dl f H).reverse = H
  | 0, H, h0, h1 => by
    rw [Int.pow_zero] at h1
    have : H = 0 := by omega
    subst this; rfl
  | f + 1, H, h0, h1 => by
    rw [dl_succ]
    split
    · next h => rw [h]; rfl
    · rw [List.reverse_cons, dval_append, dl_val f (H / 10) (by omega) (by rw [Int.pow_succ] at h1; omega)]
      have : dval [H % 10] = H % 10 := by unfold dval; simp
      rw [this]
      simp only [List.length_cons, List.length_nil]
      omega
theorem dl_len : ∀ (f k : Nat) (H : Int), 0 ≤ H → H < 10 ^ k → (dl f H).length ≤ k
  | 0, k, H, _, _ => by simp [dl]
  | f + 1, 0, H, h0, h1 => by
    rw [Int.pow_zero] at h1
    have : H = 0 := by omega
    rw [this, dl_null]; simp
  | f + 1, k + 1, H, h0, h1 => by
    rw [dl_succ]
    split
    · simp
    · rw [List.length_cons]
      have := dl_len f k (H / 10) (by omega) (by rw [Int.pow_succ] at h1; omega)
      omega
theorem fl_val : ∀ (f : Nat) (F : Int) (i : Nat), i + f = 149 → 0 ≤ F → F < 2 ^ 149 → F % 2 ^ i = 0 → dval (fl f F) * 2 ^ 149 = F * 10 ^ (fl f F).length ∧ (fl f F).length ≤ f
  | 0, F, i, hi, h0, h1, hm => by
    have : F = 0 := frac_end h0 h1 (by rw [show i = 149 by omega] at hm; exact hm)
    subst this
    simp [fl, dval]
  | f + 1, F, i, hi, h0, h1, hm => by
    rw [fl_succ]
    split
    · next h => subst h; simp [dval]
    · obtain ⟨s1, s2, s3, s4, s5⟩ := frac_step h0 h1 hm (by omega)
      obtain ⟨h2, h3⟩ := fl_val f (F * 10 % 2 ^ 149) (i + 1) (by omega) s3 s4 s5
      refine ⟨?_, by rw [List.length_cons]; omega⟩
      have e10 : (10 : Int) ^ ((fl f (F * 10 % 2 ^ 149)).length + 1) = 10 ^ (fl f (F * 10 % 2 ^ 149)).length * 10 := Int.pow_succ _ _
      rw [dval_cons, List.length_cons, Int.add_mul, h2, e10]
      have h4 := Int.mul_ediv_add_emod (F * 10) (2 ^ 149)
      generalize (10 : Int) ^ (fl f (F * 10 % 2 ^ 149)).length = P
      generalize F * 10 / 2 ^ 149 = d at *
      generalize F * 10 % 2 ^ 149 = r at *
      generalize (2 : Int) ^ 149 = Q at *
      rw [show d * P * Q = d * Q * P by rw [Int.mul_assoc, Int.mul_comm P Q, ← Int.mul_assoc], ← Int.add_mul, Int.mul_comm d Q, h4, Int.mul_assoc, Int.mul_comm 10 P]
theorem tw_append : ∀ (a b : List UInt8), AllDig a → (∀ c t, b = c :: t → isDig c = false) → (a ++ b).takeWhile isDig = a ∧ (a ++ b).dropWhile isDig = b
  | [], [], _, _ => ⟨rfl, rfl⟩
  | [], c :: t, _, h => by
    have := h c t rfl
    simp [List.takeWhile_cons, List.dropWhile_cons, this]
  | x :: a, b, ha, h => by
    have hx := ha 0 x rfl
    have ih := tw_append a b (fun k c hk => ha (k + 1) c (by simpa using hk)) h
    simp [List.takeWhile_cons, List.dropWhile_cons, hx, ih.1, ih.2]
/-- The bytes of the digits ahead of the point, and behind it. -/
def hbytes (H : Int) : List UInt8 := (if H = 0 then [0] else (dl 100 H).reverse).map bd
def tbytes (F : Int) : List UInt8 := (fl 149 F).map bd
theorem text_bytes (n : Bool) (m : Int) : (textL n m).map b8 = (if n then [45] else []) ++ (hbytes (m / 2 ^ 149) ++ (if m % 2 ^ 149 = 0 then [] else 46 :: tbytes (m % 2 ^ 149))) := by
  unfold textL signT headT fracT hbytes tbytes
  have h45 : b8 45 = 45 := by decide
  have h46 : b8 46 = 46 := by decide
  have h48 : b8 48 = 48 := by decide
  have h0 : bd 0 = 48 := by decide
  have hb : ∀ l : List Int, (l.map asc).map b8 = l.map bd := fun l => by rw [List.map_map]; rfl
  rw [List.map_append, List.map_append, List.append_assoc]
  congr 1
  · cases n
    · rfl
    · simp [h45]
  · congr 1
    · split
      · simp [h48, h0]
      · exact hb _
    · split
      · rfl
      · rw [List.map_cons, h46, hb]
theorem hbytes_facts {H : Int} (h0 : 0 ≤ H) (h1 : H < 10 ^ 80) : AllDig (hbytes H) ∧ hbytes H ≠ [] ∧ nval (hbytes H) = H ∧ (hbytes H).length ≤ 80 := by
  unfold hbytes
  split
  · next h => subst h; exact ⟨alldig_bd [0] (by simp), by simp, by decide, by simp⟩
  · next h =>
    have hb : ∀ x ∈ (dl 100 H).reverse, 0 ≤ x ∧ x < 10 := fun x hx => dl_bound 100 H h0 x (by simpa using hx)
    have h2 := pow_mono (q := 10) (m := 80) (n := 100) (by decide) (by decide)
    have hv := dl_val 100 H h0 (by omega)
    refine ⟨alldig_bd _ hb, ?_, by rw [nval_bd _ hb, hv], by simp only [List.length_map, List.length_reverse]; exact dl_len 100 80 H h0 h1⟩
    intro e
    have e2 : (dl 100 H).reverse = [] := by simpa using e
    rw [e2] at hv
    exact h (by rw [← hv]; rfl)
theorem tbytes_facts {F : Int} (h0 : 0 ≤ F) (h1 : F < 2 ^ 149) : AllDig (tbytes F) ∧ nval (tbytes F) * 2 ^ 149 = F * 10 ^ (tbytes F).length ∧ (tbytes F).length ≤ 149 ∧ (F ≠ 0 → tbytes F ≠ []) := by
  unfold tbytes
  have hb := fl_bound 149 F h0 h1
  obtain ⟨h2, h3⟩ := fl_val 149 F 0 rfl h0 h1 (by simp [Int.emod_one])
  refine ⟨alldig_bd _ hb, by rw [nval_bd _ hb, List.length_map]; exact h2, by rw [List.length_map]; exact h3, ?_⟩
  intro hF e
  rw [fl_succ, if_neg hF] at e
  simp at e
theorem sign_dig {l : List UInt8} (h : AllDig l) (hn : l ≠ []) (t : List UInt8) : signP (l ++ t) = (false, l ++ t) := by
  cases l with
  | nil => exact absurd rfl hn
  | cons c r =>
    have hc := dig_bounds (h 0 c rfl)
    show (if c = 45 then (true, r ++ t) else if c = 43 then (false, r ++ t) else (false, c :: (r ++ t))) = _
    rw [if_neg (by intro e; subst e; exact absurd hc.1 (by decide)), if_neg (by intro e; subst e; exact absurd hc.1 (by decide))]
    rfl
theorem dec_text (n : Bool) (m : Int) (h0 : 0 ≤ m) (h1 : m < 2 ^ 384) : decR ((textL n m).map b8) = (n, hbytes (m / 2 ^ 149) ++ tbytes (m % 2 ^ 149), 0 - ((tbytes (m % 2 ^ 149)).length : Int), true) := by
  have hP : (0 : Int) < 2 ^ 149 := pow_pos' two_pos _
  have hH0 : 0 ≤ m / 2 ^ 149 := Int.ediv_nonneg h0 (by omega)
  have hH1 : m / 2 ^ 149 < 10 ^ 80 := by
    have h2 : (2 : Int) ^ 384 = 2 ^ 149 * 2 ^ 235 := by rw [← Int.pow_add]
    have h3 : (2 : Int) ^ 235 < 10 ^ 80 := by decide +kernel
    have h4 : m / 2 ^ 149 < 2 ^ 235 := Int.ediv_lt_of_lt_mul hP (by rw [Int.mul_comm, ← h2]; exact h1)
    omega
  have hF0 := Int.emod_nonneg m (show (2 : Int) ^ 149 ≠ 0 by omega)
  have hF1 := Int.emod_lt_of_pos m hP
  obtain ⟨a1, a2, a3, a4⟩ := hbytes_facts hH0 hH1
  obtain ⟨b1, b2, b3, b4⟩ := tbytes_facts hF0 hF1
  rw [text_bytes]
  generalize hbytes (m / 2 ^ 149) = h at *
  have hsg : signP ((if n then [45] else []) ++ (h ++ (if m % 2 ^ 149 = 0 then [] else 46 :: tbytes (m % 2 ^ 149)))) = (n, h ++ (if m % 2 ^ 149 = 0 then [] else 46 :: tbytes (m % 2 ^ 149))) := by
    cases n
    · rw [if_neg (by decide), List.nil_append, sign_dig a1 a2]
    · rw [if_pos rfl]; rfl
  unfold decR
  rw [hsg]
  simp only
  by_cases hF : m % 2 ^ 149 = 0
  · have ht : tbytes (m % 2 ^ 149) = [] := by rw [hF]; rfl
    rw [if_pos hF, ht]
    obtain ⟨t1, t2⟩ := tw_append h [] a1 (by simp)
    rw [t1, t2]
    unfold finR
    simp [a2]
  · rw [if_neg hF]
    generalize tbytes (m % 2 ^ 149) = t at *
    obtain ⟨t1, t2⟩ := tw_append h (46 :: t) a1 (by intro c u e; injection e with e1 _; subst e1; decide)
    rw [t1, t2]
    obtain ⟨u1, u2⟩ := tw_append t [] b1 (by simp)
    rw [List.append_nil] at u1 u2
    simp only [if_true]
    rw [u1, u2, if_neg (b4 hF)]
    unfold finR
    rw [if_neg a2]
theorem nat_dvd {D m : Int} {a T : Nat} (hD : 0 ≤ D) (hm : 0 ≤ m) (h : m * 5 ^ a = D * 2 ^ T) : D % 5 ^ a = 0 := by
  obtain ⟨d, rfl⟩ := Int.eq_ofNat_of_zero_le hD
  obtain ⟨k, rfl⟩ := Int.eq_ofNat_of_zero_le hm
  have h2 : k * 5 ^ a = d * 2 ^ T := by exact_mod_cast h
  have hc : Nat.Coprime (5 ^ a) (2 ^ T) := Nat.Coprime.pow _ _ (by decide)
  have h3 : 5 ^ a ∣ d * 2 ^ T := ⟨k, by rw [← h2, Nat.mul_comm]⟩
  have h4 : 5 ^ a ∣ d := hc.dvd_of_dvd_mul_right h3
  have h5 : ((5 ^ a : Nat) : Int) ∣ (d : Int) := by exact_mod_cast h4
  have h6 : ((5 ^ a : Nat) : Int) = 5 ^ a := by push_cast; rfl
  rw [h6] at h5
  exact Int.emod_eq_zero_of_dvd h5
theorem scV_back (s : List UInt8) (m : Int) (j k : Nat) (hs : 0 ≤ nval s) (h0 : 0 ≤ m) (h1 : m < 2 ^ 384) (hj : j ≤ 149) (hlen : (s.length : Int) + ((k : Int) - (j : Int)) ≤ 80) (he : nval s * 10 ^ k * 2 ^ 149 = m * 10 ^ j) :
    scV s (0 - (j : Int) + (k : Int)) = (m, true) := by
  have hY : nval s % 5 ^ (-(0 - (j : Int) + (k : Int))).toNat = 0 ∧ scY (nval s) (0 - (j : Int) + (k : Int)) = m := by
    unfold scY
    rcases Nat.le_total j k with hjk | hjk
    · obtain ⟨b, rfl⟩ : ∃ b, k = j + b := ⟨k - j, by omega⟩
      rw [show (-(0 - (j : Int) + ((j + b : Nat) : Int))).toNat = 0 by omega, show (0 - (j : Int) + ((j + b : Nat) : Int)).toNat = b by omega]
      simp only [Int.pow_zero, Int.emod_one, Int.ediv_one, Nat.sub_zero, true_and]
      have hP : (0 : Int) < 10 ^ j := pow_pos' (by decide) _
      refine Int.eq_of_mul_eq_mul_right (show (10 : Int) ^ j ≠ 0 by omega) ?_
      rw [← he, Nat.add_comm j b, Int.pow_add]
      simp only [Int.mul_assoc, Int.mul_left_comm, Int.mul_comm]
    · obtain ⟨a, rfl⟩ : ∃ a, j = k + a := ⟨j - k, by omega⟩
      rw [show (-(0 - ((k + a : Nat) : Int) + (k : Int))).toNat = a by omega, show (0 - ((k + a : Nat) : Int) + (k : Int)).toNat = 0 by omega]
      have hP : (0 : Int) < 10 ^ k := pow_pos' (by decide) _
      have h2 : (0 : Int) < 2 ^ a := pow_pos' (by decide) _
      have h5 : (0 : Int) < 5 ^ a := pow_pos' (by decide) _
      have e1 : m * 5 ^ a = nval s * 2 ^ (149 - a) := by
        refine Int.eq_of_mul_eq_mul_right (show (2 : Int) ^ a * 10 ^ k ≠ 0 by have := Int.mul_pos h2 hP; omega) ?_
        have e10 : (10 : Int) ^ (k + a) = 10 ^ k * (5 ^ a * 2 ^ a) := by rw [Int.pow_add, ← Int.mul_pow]; rfl
        have e149 : (2 : Int) ^ 149 = 2 ^ (149 - a) * 2 ^ a := by rw [← Int.pow_add]; congr 1; omega
        rw [e10, e149] at he
        calc m * 5 ^ a * (2 ^ a * 10 ^ k) = m * (10 ^ k * (5 ^ a * 2 ^ a)) := by simp only [Int.mul_assoc, Int.mul_left_comm, Int.mul_comm]
          _ = nval s * 10 ^ k * (2 ^ (149 - a) * 2 ^ a) := he.symm
          _ = nval s * 2 ^ (149 - a) * (2 ^ a * 10 ^ k) := by simp only [Int.mul_assoc, Int.mul_left_comm, Int.mul_comm]
      have hd := nat_dvd hs h0 e1
      refine ⟨hd, ?_⟩
      rw [Int.pow_zero, Int.mul_one]
      have e2 := Int.mul_ediv_add_emod (nval s) (5 ^ a)
      rw [hd, Int.add_zero] at e2
      refine Int.eq_of_mul_eq_mul_right (show (5 : Int) ^ a ≠ 0 by omega) ?_
      rw [e1]
      conv => rhs; rw [← e2]
      simp only [Int.mul_assoc, Int.mul_left_comm, Int.mul_comm]
  unfold scV
  rw [if_neg (by omega), if_neg (by rw [hY.1]; simp), hY.2, if_pos (by rw [q6T]; exact h1)]
theorem text_back (z : Int) (h0 : -half ≤ z) (h1 : z < half) : fromT ((textL (decide (z < 0)) (mag z)).map b8) = (z, 0) := by
  have hm0 : 0 ≤ mag z := by unfold mag; split <;> omega
  have hm1 : mag z ≤ half := by unfold mag; split <;> omega
  have hhp : (0 : Int) < half := by decide
  have hm2 : mag z < 2 ^ 384 := by rw [two384]; omega
  have hd := dec_text (decide (z < 0)) (mag z) hm0 hm2
  have hP : (0 : Int) < 2 ^ 149 := pow_pos' two_pos _
  have hH0 : 0 ≤ mag z / 2 ^ 149 := Int.ediv_nonneg hm0 (by omega)
  have hH1 : mag z / 2 ^ 149 < 10 ^ 80 := by
    have h2 : (2 : Int) ^ 384 = 2 ^ 149 * 2 ^ 235 := by rw [← Int.pow_add]
    have h3 : (2 : Int) ^ 235 < 10 ^ 80 := by decide +kernel
    have h4 : mag z / 2 ^ 149 < 2 ^ 235 := Int.ediv_lt_of_lt_mul hP (by rw [Int.mul_comm, ← h2]; exact hm2)
    omega
  have hF0 := Int.emod_nonneg (mag z) (show (2 : Int) ^ 149 ≠ 0 by omega)
  have hF1 := Int.emod_lt_of_pos (mag z) hP
  obtain ⟨a1, a2, a3, a4⟩ := hbytes_facts hH0 hH1
  obtain ⟨b1, b2, b3, b4⟩ := tbytes_facts hF0 hF1
  have hlen : ((textL (decide (z < 0)) (mag z)).map b8).length ≤ 600 := by
    rw [text_bytes, List.length_append, List.length_append]
    have : (if decide (z < 0) = true then [(45 : UInt8)] else []).length ≤ 1 := by split <;> simp
    have : (if mag z % 2 ^ 149 = 0 then [] else 46 :: tbytes (mag z % 2 ^ 149)).length ≤ 150 := by
      split
      · exact Nat.zero_le _
      · rw [List.length_cons]; omega
    omega
  unfold fromT
  rw [if_neg (by omega), hd, if_neg (by simp)]
  simp only
  have hval : nval (hbytes (mag z / 2 ^ 149) ++ tbytes (mag z % 2 ^ 149)) * 2 ^ 149 = mag z * 10 ^ (tbytes (mag z % 2 ^ 149)).length := by
    rw [nval_append, a3, Int.add_mul, b2]
    have h4 := Int.mul_ediv_add_emod (mag z) (2 ^ 149)
    generalize (10 : Int) ^ (tbytes (mag z % 2 ^ 149)).length = T at *
    generalize mag z / 2 ^ 149 = d at *
    generalize mag z % 2 ^ 149 = r at *
    generalize (2 : Int) ^ 149 = Q at *
    rw [show d * T * Q = d * Q * T by rw [Int.mul_assoc, Int.mul_comm T Q, ← Int.mul_assoc], ← Int.add_mul, Int.mul_comm d Q, h4]
  have hdl : (hbytes (mag z / 2 ^ 149) ++ tbytes (mag z % 2 ^ 149)).length ≤ 80 + (tbytes (mag z % 2 ^ 149)).length := by rw [List.length_append]; omega
  have hall : AllDig (hbytes (mag z / 2 ^ 149) ++ tbytes (mag z % 2 ^ 149)) := alldig_of_mem (fun c hc => by
    rcases List.mem_append.1 hc with h9 | h9
    · exact mem_of_alldig a1 c h9
    · exact mem_of_alldig b1 c h9)
  generalize hbytes (mag z / 2 ^ 149) ++ tbytes (mag z % 2 ^ 149) = ds at *
  generalize (tbytes (mag z % 2 ^ 149)).length = j at *
  have hg := nval_drop ds
  have hgl := dropWhile_len (· == (48 : UInt8)) ds
  have hgd : AllDig (ds.dropWhile (· == 48)) := alldig_of_mem (fun c hc => mem_of_alldig hall c ((List.dropWhile_sublist _).mem hc))
  obtain ⟨t1, t2⟩ := nval_trim (ds.dropWhile (· == 48))
  have htd : AllDig (Lib.trimRightB (ds.dropWhile (· == 48)) 48) := alldig_of_mem (fun x hx => mem_of_alldig hgd x (by rw [trim_split (ds.dropWhile (· == 48))]; exact List.mem_append_left _ hx))
  unfold fromD
  generalize ds.dropWhile (· == 48) = g at *
  by_cases hgn : g = []
  · rw [if_pos hgn]
    rw [hgn] at hg
    have h9 : nval ds = 0 := hg.symm
    rw [h9, Int.zero_mul] at hval
    have hT : (0 : Int) < 10 ^ j := pow_pos' (by decide) _
    have hz0 : mag z = 0 := by
      rcases Int.mul_eq_zero.mp hval.symm with h | h
      · exact h
      · omega
    have : z = 0 := by unfold mag at hz0; split at hz0 <;> omega
    rw [this]
  · rw [if_neg hgn]
    rw [hg] at t1
    generalize Lib.trimRightB g 48 = s at *
    obtain ⟨k, hk⟩ : ∃ k, k = g.length - s.length := ⟨_, rfl⟩
    rw [← hk] at t1
    have hk2 : (g.length : Int) - (s.length : Int) = (k : Int) := by omega
    rw [hk2, scV_back s (mag z) j k (nval_nonneg s htd) hm0 hm2 b3 (by omega) (by rw [← t1]; exact hval)]
    simp only
    have hf : fitsT (decide (z < 0)) (mag z) = true := by
      unfold fitsT mag
      by_cases h : z < 0
      · simp [h]; omega
      · simp [h]; omega
    rw [if_neg (by decide), hf, if_pos rfl]
    have : sig (decide (z < 0)) (mag z) = z := by
      unfold sig mag
      by_cases h : z < 0
      · simp [h]
      · simp [h]
    rw [this]
end Go.Proofs.YtbbldcbilnkkdaaDoor.Parse
