/-
  Sums of layer 2: pack, Over and Round, of the document. No condition.
-/
import Derived.Test.YtbbldcbilnkkdaaDoorOverP
import Derived.Test.YtbbldcbilnkkdaaDoorWholeD
import Derived.Deep.DeepCutAuto
import Derived.Deep.CutBlock
set_option linter.unusedVariables false
set_option linter.unusedSimpArgs false
namespace Go.Proofs.YtbbldcbilnkkdaaDoor.Reck
open Go.RowKit Num Tly Ref K

def hI (M : Int) (half : Bool) (i : Nat) : Bool := if i = 0 then half else decide (dig 2 M (i - 1) = 1)
def rI (M : Int) (half rest : Bool) (i : Nat) : Bool := if i = 0 then rest else (rest || half || decide (M % 2 ^ (i - 1) ≠ 0))
theorem rI_succ (M : Int) (half rest : Bool) (i : Nat) : rI M half rest (i + 1) = (rI M half rest i || hI M half i) := by
  unfold rI hI
  rw [if_neg (by omega), Nat.add_sub_cancel]
  cases i with
  | zero => simp [Int.emod_one]
  | succ j =>
    rw [if_neg (by omega), if_neg (by omega), Nat.add_sub_cancel, mod_succ two_pos]
    have hb := bit_le M j
    have hP : (0 : Int) < 2 ^ j := pow_pos' two_pos j
    have h0 := Int.emod_nonneg M (b := 2 ^ j) (by omega)
    rw [Bool.or_assoc (rest || half)]
    congr 1
    rw [Bool.eq_iff_iff]
    simp only [decide_eq_true_eq, Bool.or_eq_true]
    rcases hb with h | h <;> rw [h]
    · simp
    · simp; omega
def RelP1 (M : Int) (half rest : Bool) (D : Nat) (hv rv i : Value) : Prop := ∃ k : Nat, k ≤ D ∧ i = .int .i64 k ∧ hv = .bool (hI M half k) ∧ rv = .bool (rI M half rest k)
def RelP2 (M : Int) (D l : Nat) (mv i : Value) : Prop := ∃ k : Nat, D ≤ k ∧ k ≤ l ∧ i = .int .i64 ((k : Int) - 1) ∧ mv = .int .u32 (M / 2 ^ k)
theorem high_bits {M : Int} {k l : Nat} (h0 : 0 ≤ M) (hl : l = bl M) (hk : l ≤ k + 24) : 0 ≤ M / 2 ^ k ∧ M / 2 ^ k < 16777216 := by
  have hP : (0 : Int) < 2 ^ k := pow_pos' two_pos k
  refine ⟨Int.ediv_nonneg h0 (by omega), Int.ediv_lt_of_lt_mul hP ?_⟩
  have h1 := bl_lt h0
  have h2 := pow_mono (q := 2) (m := bl M) (n := 24 + k) two_pos (by omega)
  rw [Int.pow_add] at h2
  exact Int.lt_of_lt_of_le h1 h2
set_option maxRecDepth 100000 in
set_option maxHeartbeats 8000000 in
theorem pack (neg : Bool) (M : Int) (half rest : Bool) (mode : Int) (m0 : 0 ≤ M) (m1 : M < 2 ^ 384) (mo0 : 0 ≤ mode) (mo1 : mode < 4) (g : Nat) (w : World) (hr : Row w g 3 (bv M)) :
    Calls Tryd.prog 58 #[.bool neg, .slice (some ⟨g, 0, none⟩) 384 384, .bool half, .bool rest, .int .i64 mode] w fun e w' => e = .returned (.tuple #[.int .u32 (packR neg M half rest mode).1, .int .i64 (packR neg M half rest mode).2]) ∧ w = w' := by
  have HSZ := Lib.hid (size M (some ⟨g, 0, none⟩) 384 384 m0 m1 (by omega) w (lies_bits hr))
  have HMB := Lib.hid (And.intro m0 m1)
  have HMO := Lib.hid (And.intro mo0 mo1)
  have HR := Lib.hid hr
  obtain ⟨X, hX⟩ : ∃ X, X = packR neg M half rest mode := ⟨_, rfl⟩
  rw [← hX]
  have HX := Lib.hid hX
  obtain ⟨l, hl⟩ : ∃ l, l = bl M := ⟨_, rfl⟩
  rw [← hl] at HSZ
  have HL := Lib.hid hl
  have hll : l ≤ 384 := by rw [hl]; exact bl_fits m0 m1
  obtain ⟨D, hD⟩ : ∃ D, D = pd M := ⟨_, rfl⟩
  have HD := Lib.hid hD
  have hDl : D = l - 24 := by rw [hD, hl]; rfl
  have hmax : max (0 : Int) ((l : Int) - 24) = (D : Int) := by omega
  have hD384 : D ≤ 360 := by omega
  have HDL := Lib.hid (And.intro hDl hll)
  have hps := ps_bound m0
  obtain ⟨S, hS⟩ : ∃ S, S = ps M := ⟨_, rfl⟩
  have HS := Lib.hid hS
  rw [← hS] at hps
  have HPS := Lib.hid hps
  have hgl := hr.lt
  clear m0 m1 mo0 mo1 hr hX hl hD hDl hps hS
  go_enter Tryd.func58, Tryd.ntmps58
  go_wp2_with fail
  refine HSZ.out.mono ?_
  rintro e w1 ⟨rfl, rfl⟩
  go_wp2_with fail
  clear hmax HSZ
  go_loop [2, 3, 14] (fun hv rv i => RelP1 M half rest D hv rv i) (fun _ _ i => D - (intOf i).toNat)
  case atStart => exact ⟨0, Nat.zero_le _, rfl, rfl, rfl⟩
  case round =>
    obtain ⟨k, hk, rfl, rfl, rfl⟩ := hrel
    rcases Nat.lt_or_ge k D with h6 | h6
    · have hx := HR.out.get (iv_get (digs_get 2 M (show k < 384 by omega)))
      have hkb : decide ((k : Int) < (D : Int)) = true := by simp; omega
      have f0 : (0 : Int) ≤ (k : Int) := by omega
      have f1 : (k : Int) < 384 := by omega
      have hh : hI M half (k + 1) = decide (dig 2 M k = 1) := by unfold hI; rw [if_neg (by omega)]; rfl
      have hrr := rI_succ M half rest k
      have HH := Lib.hid hh
      have HRR := Lib.hid hrr
      have HS6 := Lib.hid h6
      clear hh hrr
      generalize dig 2 M k = x at *
      generalize hI M half k = a at *
      generalize rI M half rest k = b at *
      cases b
      · go_wp2
        go_round
        case rel => exact ⟨k + 1, by have := HS6.out; omega, by go_num, by rw [HH.out]; by_cases h : x = 1 <;> simp [h], by rw [HRR.out]; rfl⟩
        case measure => simp [intOf]; have := HS6.out; omega
      · go_wp2
        go_round
        case rel => exact ⟨k + 1, by have := HS6.out; omega, by go_num, by rw [HH.out]; by_cases h : x = 1 <;> simp [h], by rw [HRR.out]; rfl⟩
        case measure => simp [intOf]; have := HS6.out; omega
    · obtain rfl : k = D := by omega
      obtain ⟨H, hH⟩ : ∃ H, H = hI M half k := ⟨_, rfl⟩
      obtain ⟨E, hE⟩ : ∃ E, E = rI M half rest k := ⟨_, rfl⟩
      rw [← hH, ← hE]
      have HH := Lib.hid (show H = ph M half by rw [hH, HD.out]; rfl)
      have HE := Lib.hid (show E = pr M half rest by rw [hE, HD.out]; rfl)
      clear hH hE
      have hkb : decide ((k : Int) < (k : Int)) = false := by simp
      go_wp2
      clear hkb
      go_loop [15, 16] (fun mv i => RelP2 M k l mv i) (fun _ i => (intOf i + 1 - k).toNat)
      case atStart => exact ⟨l, by have := HDL.out; omega, Nat.le_refl _, rfl, by rw [Int.ediv_eq_zero_of_lt HMB.out.1 (by rw [HL.out]; exact bl_lt HMB.out.1)]⟩
      case round =>
        obtain ⟨j, hj1, hj2, rfl, rfl⟩ := hrel
        rcases Nat.lt_or_ge k j with h7 | h7
        · obtain ⟨c, rfl⟩ : ∃ c, j = c + 1 := ⟨j - 1, by omega⟩
          have e1 : ((c + 1 : Nat) : Int) - 1 = (c : Int) := by omega
          rw [e1]
          have hx := HR.out.get (iv_get (digs_get 2 M (show c < 384 by omega)))
          have hkb : decide ((k : Int) ≤ (c : Int)) = true := by simp; omega
          have hkb2 : (k : Int) ≤ (c : Int) := by omega
          have f0 : (0 : Int) ≤ (c : Int) := by omega
          have f1 : (c : Int) < 384 := by omega
          have hb := bit_le M c
          have hdv := div_bit M c
          have hb1 := high_bits (k := c) HMB.out.1 HL.out (by have := HDL.out; omega)
          have hb2 := high_bits (k := c + 1) HMB.out.1 HL.out (by have := HDL.out; omega)
          have HDV := Lib.hid hdv
          have h72 := Lib.hid h7
          have hj22 := Lib.hid hj2
          clear hdv e1
          generalize dig 2 M c = x at *
          generalize M / 2 ^ (c + 1) = y at *
          have hdv := HDV.out
          have k1 : IntKind.u32.wrap (2 * y) = 2 * y := by rw [IntKind.wrap_u32]; omega
          have k2 : IntKind.u32.wrap x = x := by rw [IntKind.wrap_u32]; omega
          have k3 : IntKind.u32.wrap (2 * y + x) = 2 * y + x := by rw [IntKind.wrap_u32]; omega
          clear hdv hb hb1 hb2 h7 hj1 hj2
          go_wp2
          go_round
          case rel => exact ⟨c, by have := h72.out; omega, by have := hj22.out; omega, rfl, by rw [HDV.out]⟩
          case measure => simp [intOf]; have := h72.out; omega
        · obtain rfl : j = k := by omega
          have hkb : decide ((j : Int) ≤ (j : Int) - 1) = false := by simp; omega
          have hkb2 : ¬ ((j : Int) ≤ (j : Int) - 1) := by omega
          rw [show M / 2 ^ j = S by rw [HS.out, HD.out]; rfl]
          obtain ⟨L, hL⟩ : ∃ L, L = decide (S % 2 = 1) := ⟨_, rfl⟩
          obtain ⟨U, hU⟩ : ∃ U, U = roundUp mode neg L H E := ⟨_, rfl⟩
          have HX2 := Lib.hid (show X = tail2 neg U S j by rw [HX.out]; unfold packR; rw [← HS.out, ← HD.out, ← HH.out, ← HE.out, ← hL, ← hU])
          have HU := Lib.hid hU
          have hLL : (S % 2 == 1) = L := by rw [hL]; by_cases h : S % 2 = 1 <;> simp [h]
          have hS0 : 0 ≤ S := HPS.out.1
          have hSr : S.tmod 2 = S % 2 := Int.tmod_eq_emod_of_nonneg hS0
          clear hL hU hj1 hj2 h7
          go_upto_block 4 with (fail)
          go_cut [17] (fun uv wx => uv = .bool U ∧ wx = w)
          case first =>
            have hU := HU.out
            have hcases : mode = 0 ∨ mode = 1 ∨ mode = 2 ∨ mode = 3 := by have := HMO.out; omega
            clear hkb hkb2 HX2 HU
            rcases hcases with rfl | rfl | rfl | rfl <;> cases neg <;> cases H <;> cases E <;> (simp [roundUp] at hU; subst hU; go_wp2; go_meet; exact ⟨rfl, rfl⟩)
          case rest =>
            obtain ⟨rfl, rfl⟩ := hcut
            have hps := HPS.out
            clear hkb hkb2 hLL HU hSr
            cases U
            · have t11 : (S == 16777216) = false := by simp; omega
              have t12 : ¬ S = 16777216 := by omega
              by_cases hs : S < 8388608
              · have t1 : decide (8388608 ≤ S) = false := by simp; omega
                have t2 : ¬ 8388608 ≤ S := by omega
                have t3 : IntKind.u32.wrap (S + 2147483648) = S + 2147483648 := by rw [IntKind.wrap_u32]; omega
                have HX1 := Lib.hid (show X = (S + sgb neg, 0) by rw [HX2.out]; unfold tail2; simp only [Bool.false_eq_true, if_false]; rw [fin2_small hs])
                clear hs HPS hps
                cases neg
                · rw [show sgb false = 0 from rfl, Int.add_zero] at HX1
                  go_wp2
                  go_ret2
                  rw [HX1.out]
                  exact ⟨rfl, rfl⟩
                · rw [show sgb true = 2147483648 from rfl] at HX1
                  go_wp2
                  go_ret2
                  rw [HX1.out]
                  exact ⟨rfl, rfl⟩
              have t1 : decide (8388608 ≤ S) = true := by simp; omega
              have t2 : 8388608 ≤ S := by omega
              by_cases hfar : 254 < j + 1
              · have t4 : decide (254 < (j : Int) + 1) = true := by simp; omega
                have t5 : 254 < (j : Int) + 1 := by omega
                have HX1 := Lib.hid (show X = (0, 20) by rw [HX2.out]; unfold tail2; simp only [Bool.false_eq_true, if_false]; rw [fin2_far (by omega) hfar])
                clear hfar hps
                go_wp2
                go_ret2
                rw [HX1.out]
                exact ⟨rfl, rfl⟩
              have t4 : decide (254 < (j : Int) + 1) = false := by simp; omega
              have t5 : ¬ 254 < (j : Int) + 1 := by omega
              have t6 : IntKind.u32.wrap ((j : Int) + 1) = (j : Int) + 1 := by rw [IntKind.wrap_u32]; omega
              obtain ⟨V, hV⟩ : ∃ V, V = ((j : Int) + 1) * 8388608 := ⟨_, rfl⟩
              have t7 : IntKind.u32.wrap (((j : Int) + 1) * 8388608) = V := by rw [IntKind.wrap_u32]; omega
              have t7' : IntKind.u32.wrap (((j : Int) + 1) * 2 ^ 23) = V := t7
              obtain ⟨Y, hY⟩ : ∃ Y, Y = V + S := ⟨_, rfl⟩
              have t8 : IntKind.u32.wrap (V + S) = Y := by rw [IntKind.wrap_u32]; omega
              obtain ⟨Z, hZ⟩ : ∃ Z, Z = Y - 8388608 := ⟨_, rfl⟩
              have t9 : IntKind.u32.wrap (Y - 8388608) = Z := by rw [IntKind.wrap_u32]; omega
              have t10 : IntKind.u32.wrap (Z + 2147483648) = Z + 2147483648 := by rw [IntKind.wrap_u32]; omega
              have HX1 := Lib.hid (show X = (Z + sgb neg, 0) by rw [HX2.out]; unfold tail2; simp only [Bool.false_eq_true, if_false]; rw [fin2_great (by omega) hfar]; refine Prod.ext ?_ rfl; show ((j : Int) + 1) * 8388608 + (S - 8388608) + sgb neg = Z + sgb neg; omega)
              clear hfar hZ hV hY hps
              cases neg
              · rw [show sgb false = 0 from rfl, Int.add_zero] at HX1
                go_wp2
                go_ret2
                rw [HX1.out]
                exact ⟨rfl, rfl⟩
              · rw [show sgb true = 2147483648 from rfl] at HX1
                go_wp2
                go_ret2
                rw [HX1.out]
                exact ⟨rfl, rfl⟩
            · by_cases h24 : S + 1 = 16777216
              · have t11 : IntKind.u32.wrap (S + 1) = 16777216 := by rw [IntKind.wrap_u32]; omega
                have t11' : (S + 1 == 16777216) = true := by simpa using h24
                by_cases hfar : 254 < (j + 1) + 1
                · have t4 : decide (254 < (j : Int) + 1 + 1) = true := by simp; omega
                  have t5 : 254 < (j : Int) + 1 + 1 := by omega
                  have HX1 := Lib.hid (show X = (0, 20) by rw [HX2.out]; unfold tail2; simp only [if_true]; rw [if_pos h24]; rw [fin2_far (by decide) hfar])
                  clear hfar hps
                  go_wp2
                  go_ret2
                  rw [HX1.out]
                  exact ⟨rfl, rfl⟩
                have t4 : decide (254 < (j : Int) + 1 + 1) = false := by simp; omega
                have t5 : ¬ 254 < (j : Int) + 1 + 1 := by omega
                have t6 : IntKind.u32.wrap ((j : Int) + 1 + 1) = (j : Int) + 1 + 1 := by rw [IntKind.wrap_u32]; omega
                obtain ⟨V, hV⟩ : ∃ V, V = ((j : Int) + 1 + 1) * 8388608 := ⟨_, rfl⟩
                have t7 : IntKind.u32.wrap (((j : Int) + 1 + 1) * 8388608) = V := by rw [IntKind.wrap_u32]; omega
                have t7' : IntKind.u32.wrap (((j : Int) + 1 + 1) * 2 ^ 23) = V := t7
                obtain ⟨Y, hY⟩ : ∃ Y, Y = V + 8388608 := ⟨_, rfl⟩
                have t8 : IntKind.u32.wrap (V + 8388608) = Y := by rw [IntKind.wrap_u32]; omega
                obtain ⟨Z, hZ⟩ : ∃ Z, Z = Y - 8388608 := ⟨_, rfl⟩
                have t9 : IntKind.u32.wrap (Y - 8388608) = Z := by rw [IntKind.wrap_u32]; omega
                have t10 : IntKind.u32.wrap (Z + 2147483648) = Z + 2147483648 := by rw [IntKind.wrap_u32]; omega
                have HX1 := Lib.hid (show X = (Z + sgb neg, 0) by rw [HX2.out]; unfold tail2; simp only [if_true]; rw [if_pos h24]; rw [fin2_great (by decide) hfar]; refine Prod.ext ?_ rfl; show (((j + 1 : Nat) : Int) + 1) * 8388608 + (8388608 - 8388608) + sgb neg = Z + sgb neg; omega)
                clear hfar hZ hV hY hps
                cases neg
                · rw [show sgb false = 0 from rfl, Int.add_zero] at HX1
                  go_wp2
                  go_ret2
                  rw [HX1.out]
                  exact ⟨rfl, rfl⟩
                · rw [show sgb true = 2147483648 from rfl] at HX1
                  go_wp2
                  go_ret2
                  rw [HX1.out]
                  exact ⟨rfl, rfl⟩
              · have t11 : IntKind.u32.wrap (S + 1) = S + 1 := by rw [IntKind.wrap_u32]; omega
                have t12 : (S + 1 == 16777216) = false := by simpa using h24
                by_cases hs : (S + 1) < 8388608
                · have t1 : decide (8388608 ≤ (S + 1)) = false := by simp; omega
                  have t2 : ¬ 8388608 ≤ (S + 1) := by omega
                  have t3 : IntKind.u32.wrap ((S + 1) + 2147483648) = (S + 1) + 2147483648 := by rw [IntKind.wrap_u32]; omega
                  have HX1 := Lib.hid (show X = ((S + 1) + sgb neg, 0) by rw [HX2.out]; unfold tail2; simp only [if_true]; rw [if_neg h24]; rw [fin2_small hs])
                  clear hs HPS hps
                  cases neg
                  · rw [show sgb false = 0 from rfl, Int.add_zero] at HX1
                    go_wp2
                    go_ret2
                    rw [HX1.out]
                    exact ⟨rfl, rfl⟩
                  · rw [show sgb true = 2147483648 from rfl] at HX1
                    go_wp2
                    go_ret2
                    rw [HX1.out]
                    exact ⟨rfl, rfl⟩
                have t1 : decide (8388608 ≤ (S + 1)) = true := by simp; omega
                have t2 : 8388608 ≤ (S + 1) := by omega
                by_cases hfar : 254 < j + 1
                · have t4 : decide (254 < (j : Int) + 1) = true := by simp; omega
                  have t5 : 254 < (j : Int) + 1 := by omega
                  have HX1 := Lib.hid (show X = (0, 20) by rw [HX2.out]; unfold tail2; simp only [if_true]; rw [if_neg h24]; rw [fin2_far (by omega) hfar])
                  clear hfar hps
                  go_wp2
                  go_ret2
                  rw [HX1.out]
                  exact ⟨rfl, rfl⟩
                have t4 : decide (254 < (j : Int) + 1) = false := by simp; omega
                have t5 : ¬ 254 < (j : Int) + 1 := by omega
                have t6 : IntKind.u32.wrap ((j : Int) + 1) = (j : Int) + 1 := by rw [IntKind.wrap_u32]; omega
                obtain ⟨V, hV⟩ : ∃ V, V = ((j : Int) + 1) * 8388608 := ⟨_, rfl⟩
                have t7 : IntKind.u32.wrap (((j : Int) + 1) * 8388608) = V := by rw [IntKind.wrap_u32]; omega
                have t7' : IntKind.u32.wrap (((j : Int) + 1) * 2 ^ 23) = V := t7
                obtain ⟨Y, hY⟩ : ∃ Y, Y = V + (S + 1) := ⟨_, rfl⟩
                have t8 : IntKind.u32.wrap (V + (S + 1)) = Y := by rw [IntKind.wrap_u32]; omega
                obtain ⟨Z, hZ⟩ : ∃ Z, Z = Y - 8388608 := ⟨_, rfl⟩
                have t9 : IntKind.u32.wrap (Y - 8388608) = Z := by rw [IntKind.wrap_u32]; omega
                have t10 : IntKind.u32.wrap (Z + 2147483648) = Z + 2147483648 := by rw [IntKind.wrap_u32]; omega
                have HX1 := Lib.hid (show X = (Z + sgb neg, 0) by rw [HX2.out]; unfold tail2; simp only [if_true]; rw [if_neg h24]; rw [fin2_great (by omega) hfar]; refine Prod.ext ?_ rfl; show ((j : Int) + 1) * 8388608 + ((S + 1) - 8388608) + sgb neg = Z + sgb neg; omega)
                clear hfar hZ hV hY hps
                cases neg
                · rw [show sgb false = 0 from rfl, Int.add_zero] at HX1
                  go_wp2
                  go_ret2
                  rw [HX1.out]
                  exact ⟨rfl, rfl⟩
                · rw [show sgb true = 2147483648 from rfl] at HX1
                  go_wp2
                  go_ret2
                  rw [HX1.out]
                  exact ⟨rfl, rfl⟩

theorem set_same {α : Type} (l : List α) (j : Nat) (v : α) (h : l[j]? = some v) : l.set j v = l := by
  apply List.ext_getElem?
  intro i
  rw [List.getElem?_set]
  by_cases hi : j = i
  · subst hi
    obtain ⟨hlt, e⟩ := List.getElem?_eq_some_iff.1 h
    rw [if_pos rfl, if_pos hlt, h]
  · rw [if_neg hi]
def RelOverR (g b : Nat) (B : Nat) (w : World) (m n : Int) (r ov i : Value) (wr : World) : Prop :=
  ∃ k : Nat, k ≤ 384 ∧ i = .int .i64 ((k : Int) - 1) ∧ r = .int .u64 (m / 2 ^ k % n) ∧ (∃ o : Bool, ov = .bool o) ∧ Row wr g 3 (iv (mix 2 0 (m / n) 384 k)) ∧ Row wr b 3 (bv m) ∧ Below B w wr
theorem step_bit {r x n : Int} (hn0 : 0 < n) (hn1 : n < 18446744073709551616) (r0 : 0 ≤ r) (r1 : r < n) (x01 : x = 0 ∨ x = 1) :
    (r * 2 + x) / n = 0 ∧ (r * 2 + x) % n = r * 2 + x ∧ r * 2 + x < n ∨ (r * 2 + x) / n = 1 ∧ (r * 2 + x) % n = r * 2 + x - n ∧ n ≤ r * 2 + x := by
  rcases Int.lt_or_le (r * 2 + x) n with h | h
  · exact Or.inl ⟨Int.ediv_eq_zero_of_lt (by omega) h, Int.emod_eq_of_lt (by omega) h, h⟩
  · right
    have e : r * 2 + x = (r * 2 + x - n) + n * 1 := by omega
    refine ⟨?_, ?_, h⟩
    · rw [e, Int.add_mul_ediv_left _ _ (by omega), Int.ediv_eq_zero_of_lt (by omega) (by omega)]; rfl
    · rw [e, Int.add_mul_emod_self_left, Int.emod_eq_of_lt (by omega) (by omega)]; omega
set_option maxRecDepth 100000 in
set_option maxHeartbeats 8000000 in
theorem Over (z n mode : Int) (h0 : -half ≤ z) (h1 : z < half) (n0 : 0 ≤ n) (n1 : n < 18446744073709551616) (w : World) :
    Calls Tryd.prog 26 #[.agg (wv z), .int .u64 n, .int .i64 mode] w fun e w' => e = .returned (.tuple #[.int .u32 (overR z n mode).1, .int .i64 (overR z n mode).2]) ∧ Below w.heap.size w w' := by
  have HA := Lib.hid (Row.new w 48 (wv z))
  have HB := Lib.hid ((Below.refl w.heap.size w).alloc (Nat.le_refl _) (.cells (wv z) 48))
  obtain ⟨X, hX⟩ : ∃ X, X = overR z n mode := ⟨_, rfl⟩
  rw [← hX]
  have HX := Lib.hid hX
  have HN := Lib.hid (And.intro n0 n1)
  clear hX n0
  by_cases hz0 : n = 0
  · have HX1 := Lib.hid (show X = (0, 2) by rw [HX.out]; unfold overR; rw [if_pos (Or.inl hz0)])
    subst hz0
    go_enter Tryd.func26, Tryd.ntmps26
    go_wp2
    go_ret2
    rw [HX1.out]
    exact ⟨rfl, HB.out⟩
  have hnb : (n == 0) = false := by simpa using hz0
  by_cases hm0 : mode < 0
  · have HX1 := Lib.hid (show X = (0, 2) by rw [HX.out]; unfold overR; rw [if_pos (Or.inr (Or.inl hm0))])
    have t1 : decide (mode < 0) = true := decide_eq_true hm0
    clear hm0
    go_enter Tryd.func26, Tryd.ntmps26
    go_wp2
    go_ret2
    rw [HX1.out]
    exact ⟨rfl, HB.out⟩
  have t1 : decide (mode < 0) = false := decide_eq_false hm0
  by_cases hm1 : 4 ≤ mode
  · have HX1 := Lib.hid (show X = (0, 2) by rw [HX.out]; unfold overR; rw [if_pos (Or.inr (Or.inr hm1))])
    have t2 : decide (3 < mode) = true := decide_eq_true (by omega)
    clear hm1
    go_enter Tryd.func26, Tryd.ntmps26
    go_wp2
    go_ret2
    rw [HX1.out]
    exact ⟨rfl, HB.out⟩
  have t2 : decide (3 < mode) = false := decide_eq_false (by omega)
  obtain ⟨m, hm⟩ : ∃ m, m = mag z := ⟨_, rfl⟩
  obtain ⟨s, hs⟩ : ∃ s, s = decide (z < 0) := ⟨_, rfl⟩
  have hap := Apart z h0 h1
  rw [← hm, ← hs] at hap
  have HAP := Lib.hid hap
  have hmn : 0 ≤ m := by rw [hm]; unfold mag; split <;> omega
  have hml : m < 2 ^ 384 := by
    have hp : (0 : Int) < half := by decide
    have e : (18446744073709551616 : Int) ^ 6 = half + half := by decide
    rw [show (384 : Nat) = 64 * 6 from rfl, ← pow64, e, hm]; unfold mag; split <;> omega
  have HMB := Lib.hid (And.intro hmn hml)
  have hzm : m = 0 ↔ z = 0 := by rw [hm]; unfold mag; split <;> omega
  have HZM := Lib.hid hzm
  have HX2 := Lib.hid (show z ≠ 0 → X = packR s (m / n) (decide (n ≤ 2 * (m % n))) (decide (m % n ≠ 0 ∧ 2 * (m % n) ≠ n)) mode from fun hz => by
    rw [HX.out]; unfold overR; rw [if_neg (by omega), if_neg hz, ← hm, ← hs])
  have HMO := Lib.hid (show 0 ≤ mode ∧ mode < 4 by omega)
  clear h0 h1 hm hs hap hmn hml hzm
  have hmk := make384
  go_enter Tryd.func26, Tryd.ntmps26
  go_wp2_with (refine wpList_load_row rfl 48 _ rfl (w.heap.size) rfl 48 _ (0, 0) _ HA.out Tryd.underlying48 rfl (by kernel_rfl) ?_)
  refine (HAP.out _).mono ?_
  rintro e w1 ⟨b1, hb1, rfl, r1, k1⟩
  have B1 := Lib.hid (HB.out.trans (k1.mono HB.out.size))
  have R1 := Lib.hid r1
  simp only [World.size_alloc] at hb1
  have hsz := size m (some ⟨b1, 0, none⟩) 384 384 HMB.out.1 HMB.out.2 (by omega) w1 (lies_bits r1)
  obtain ⟨l, hl⟩ : ∃ l, l = bl m := ⟨_, rfl⟩
  rw [← hl] at hsz
  have HSZ := Lib.hid hsz
  have hlz : l = 0 ↔ z = 0 := by
    rw [← HZM.out, hl]
    exact ⟨fun h => bl_null HMB.out.1 h, fun h => by rw [h]; rfl⟩
  have HLZ := Lib.hid hlz
  clear k1 r1 hsz HA HB HAP hl hlz
  by_cases hz : z = 0
  · have hl0 := HLZ.out.2 hz
    subst hl0
    have HX1 := Lib.hid (show X = (0, 0) by rw [HX.out]; unfold overR; rw [if_neg (by omega), if_pos hz])
    clear hz
    go_wp2_with fail
    refine HSZ.out.mono ?_
    rintro e w2 ⟨rfl, rfl⟩
    go_wp2
    go_ret2
    rw [HX1.out]
    exact ⟨rfl, B1.out⟩
  have hlb : ((l : Int) == 0) = false := by
    have : l ≠ 0 := fun h => hz (HLZ.out.1 h)
    simpa using this
  have hlb2 : ¬ (l : Int) = 0 := by simpa using hlb
  have HX3 := Lib.hid (HX2.out hz)
  clear hz HX2 HLZ
  go_wp2_with fail
  refine HSZ.out.mono ?_
  rintro e w2 ⟨rfl, rfl⟩
  go_wp2
  clear hmk HSZ
  have hR2 : Row (w1.alloc (.cells (bv 0) 3)) b1 3 (bv m) := R1.out.alloc _
  have hQ2 : Row (w1.alloc (.cells (bv 0) 3)) w1.heap.size 3 (bv 0) := Row.new w1 _ _
  have hB2 := B1.out.alloc B1.out.size (.cells (bv 0) 3)
  obtain ⟨g, hg⟩ : ∃ g, g = w1.heap.size := ⟨_, rfl⟩
  have hgb := Lib.hid (show b1 < g by rw [hg]; exact R1.out.lt)
  have hgB := Lib.hid (show w.heap.size ≤ g by rw [hg]; exact B1.out.size)
  rw [← hg] at hQ2
  have HS := Lib.hid (show RelOverR g b1 w.heap.size w m n (.int .u64 0) (.bool false) (.int .i64 383) (w1.alloc (.cells (bv 0) 3)) from
    ⟨384, Nat.le_refl _, rfl, by rw [Int.ediv_eq_zero_of_lt HMB.out.1 HMB.out.2]; rfl, ⟨false, rfl⟩, by rw [mix_full]; exact hQ2, hR2, hB2⟩)
  rw [← hg]
  clear hR2 hQ2 hB2 R1 B1 hg hlb hlb2
  go_loopw [11, 12, 13] (fun r ov i wr => RelOverR g b1 w.heap.size w m n r ov i wr) (fun _ _ i _ => (intOf i + 1).toNat)
  case atStart => exact HS.out
  case round =>
    clear HS
    obtain ⟨k, hk, hi, rfl, ⟨o, rfl⟩, ha, hb, hl⟩ := hrel
    have hnp : 0 < n := by have := HN.out; omega
    cases k with
    | zero =>
      rw [show (((0 : Nat) : Int) - 1) = -1 from rfl] at hi
      subst hi
      rw [mix_zero] at ha
      rw [Int.pow_zero, Int.ediv_one]
      have hr0 := Int.emod_nonneg m (b := n) (by omega)
      have hr1 := Int.emod_lt_of_pos m hnp
      have HX4 := Lib.hid HX3.out
      have hQ0 : 0 ≤ m / n := Int.ediv_nonneg HMB.out.1 (by omega)
      have hQ1 : m / n < 2 ^ 384 := Int.lt_of_le_of_lt (Int.ediv_le_self _ HMB.out.1) HMB.out.2
      obtain ⟨r, hr⟩ : ∃ r, r = m % n := ⟨_, rfl⟩
      obtain ⟨H, hH⟩ : ∃ H, H = decide (n ≤ 2 * r) := ⟨_, rfl⟩
      obtain ⟨E, hE⟩ : ∃ E, E = decide (r ≠ 0 ∧ 2 * r ≠ n) := ⟨_, rfl⟩
      rw [← hr] at hr0 hr1 HX4 ⊢
      rw [← hH, ← hE] at HX4
      have hpk := pack s (m / n) H E mode hQ0 hQ1 HMO.out.1 HMO.out.2 g wr ha
      obtain ⟨P, hP⟩ : ∃ P, P = packR s (m / n) H E mode := ⟨_, rfl⟩
      rw [← hP] at hpk HX4
      have HPK := Lib.hid hpk
      have hn1 := HN.out.2
      clear ha hb hpk hP hr hQ0 hQ1
      have hend : ∀ (hv ev : Bool), hv = H → ev = E → Hid (Calls Tryd.prog 58 #[.bool s, .slice (some ⟨g, 0, none⟩) 384 384, .bool hv, .bool ev, .int .i64 mode] wr fun e w' => e = .returned (.tuple #[.int .u32 P.1, .int .i64 P.2]) ∧ wr = w') := fun hv ev h1 h2 => by rw [h1, h2]; exact HPK
      by_cases htop : 9223372036854775808 ≤ r
      · have k1 : r / 9223372036854775808 = 1 := by omega
        have k1' : r / 2 ^ 63 = 1 := k1
        have HH := Lib.hid (hend true true (by rw [hH]; symm; simp; omega) (by rw [hE]; symm; simp; omega))
        have k2 : (r != 0) = true := by simp; omega
        clear hend hH hE hr0 hr1
        cases hq : (IntKind.u64.wrap (r * 2) == n)
        · have k3 : (IntKind.u64.wrap (r * 2 ^ 1) == n) = false := hq
          go_wp2_with fail
          refine HH.out.mono ?_
          rintro e w2 ⟨rfl, rfl⟩
          go_wp2
          go_ret2
          rw [HX4.out]
          exact ⟨rfl, hl⟩
        · have k3 : (IntKind.u64.wrap (r * 2 ^ 1) == n) = true := hq
          go_wp2_with fail
          refine HH.out.mono ?_
          rintro e w2 ⟨rfl, rfl⟩
          go_wp2
          go_ret2
          rw [HX4.out]
          exact ⟨rfl, hl⟩
      · have k1 : r / 9223372036854775808 = 0 := by omega
        have k1' : r / 2 ^ 63 = 0 := k1
        have k4 : IntKind.u64.wrap (r * 2) = r * 2 := by rw [IntKind.wrap_u64]; omega
        have k4' : IntKind.u64.wrap (r * 2 ^ 1) = r * 2 := k4
        by_cases hr3 : r = 0
        · have HH := Lib.hid (hend false false (by rw [hH]; symm; simp; omega) (by rw [hE]; symm; simp; omega))
          clear hend hH hE hr0 hr1
          subst hr3
          have k5 : ((0 : Int) == n) = false := by simp; omega
          have k6 : decide (n < 0) = false := by simp; omega
          have k7 : decide (n < 0 * 2) = false := by simp; omega
          go_wp2_with fail
          refine HH.out.mono ?_
          rintro e w2 ⟨rfl, rfl⟩
          go_wp2
          go_ret2
          rw [HX4.out]
          exact ⟨rfl, hl⟩
        · have k2 : (r != 0) = true := by simpa using hr3
          rcases Int.lt_trichotomy (r * 2) n with hc | hc | hc
          · have HH := Lib.hid (hend false true (by rw [hH]; symm; simp; omega) (by rw [hE]; symm; simp; omega))
            have k5 : (r * 2 == n) = false := by simp; omega
            have k6 : decide (n < r * 2) = false := by simp; omega
            clear hend hH hE hr0 hr1 hc hr3
            go_wp2_with fail
            refine HH.out.mono ?_
            rintro e w2 ⟨rfl, rfl⟩
            go_wp2
            go_ret2
            rw [HX4.out]
            exact ⟨rfl, hl⟩
          · have HH := Lib.hid (hend true false (by rw [hH]; symm; simp; omega) (by rw [hE]; symm; simp; omega))
            have k5 : (r * 2 == n) = true := by simp; omega
            have k6 : decide (n < r * 2) = false := by simp; omega
            clear hend hH hE hr0 hr1 hc hr3
            go_wp2_with fail
            refine HH.out.mono ?_
            rintro e w2 ⟨rfl, rfl⟩
            go_wp2
            go_ret2
            rw [HX4.out]
            exact ⟨rfl, hl⟩
          · have HH := Lib.hid (hend true true (by rw [hH]; symm; simp; omega) (by rw [hE]; symm; simp; omega))
            have k5 : (r * 2 == n) = false := by simp; omega
            have k6 : decide (n < r * 2) = true := by simp; omega
            clear hend hH hE hr0 hr1 hc hr3
            go_wp2_with fail
            refine HH.out.mono ?_
            rintro e w2 ⟨rfl, rfl⟩
            go_wp2
            go_ret2
            rw [HX4.out]
            exact ⟨rfl, hl⟩
    | succ j =>
      rw [show (((j + 1 : Nat) : Int) - 1) = j by omega] at hi
      subst hi
      have h6 : j < 384 := by omega
      have hx := hb.get (iv_get (digs_get 2 m h6))
      have hf := ha.free j
      have hc := ha.get (iv_get (mix_low_get 2 0 (m / n) (show j < j + 1 by omega) h6))
      obtain ⟨e1, e2⟩ := long_div m n j 2 two_pos hnp
      have hr0 := Int.emod_nonneg (m / 2 ^ (j + 1)) (b := n) (by omega)
      have hr1 := Int.emod_lt_of_pos (m / 2 ^ (j + 1)) hnp
      have hx01 := bit_le m j
      have hst := mix_back 2 0 (m / n) h6
      have hz0 : dig 2 0 j = 0 := by simp [dig]
      have f0 : (0 : Int) ≤ (j : Int) := by omega
      have f1 : (j : Int) < 384 := by omega
      have hlt := ha.lt
      have hlt1 := hb.lt
      have HA := Lib.hid ha
      have HBB := Lib.hid hb
      have HST := Lib.hid hst
      have hn1 := HN.out.2
      have hkb : decide ((0 : Int) ≤ (j : Int)) = true := by simp
      rw [hz0] at hc
      clear ha hb hst hz0
      generalize hY : m / 2 ^ (j + 1) % n = r at *
      generalize dig 2 m j = x at *
      have HE2 := Lib.hid e2
      have HE1 := Lib.hid e1
      have hsb := step_bit hnp hn1 hr0 hr1 hx01
      rw [e1, e2] at hsb
      have k2 : IntKind.u64.wrap x = x := by rw [IntKind.wrap_u64]; omega
      have kx : (if x = 1 then True else True) := by split <;> trivial
      clear e1 e2 hY kx
      rcases hsb with ⟨d0, d1, d2⟩ | ⟨d0, d1, d2⟩
      · -- the bit is 0
        have k1 : r / 9223372036854775808 = 0 := by omega
        have k1' : r / 2 ^ 63 = 0 := k1
        have k3 : IntKind.u64.wrap (2 * r) = 2 * r := by rw [IntKind.wrap_u64]; omega
        have k4 : IntKind.u64.wrap (2 * r + x) = 2 * r + x := by rw [IntKind.wrap_u64]; omega
        have k5 : decide (n ≤ 2 * r + x) = false := by simp; omega
        have k5' : ¬ n ≤ 2 * r + x := by omega
        have HEND := Lib.hid (show RelOverR g b1 w.heap.size w m n (.int .u64 (2 * r + x)) (.bool false) (.int .i64 ((j : Int) - 1)) wr from
          ⟨j, by omega, rfl, by rw [d1]; congr 1; omega, ⟨false, rfl⟩, by
            rw [← HST.out, d0]
            refine HA.out.to ?_
            unfold iv
            rw [List.map_set, set_same _ _ _ (by simp [mix, h6, dig])], HBB.out, hl⟩)
        clear hr0 hr1 hx01 d0 d1 d2 hc
        go_wp2
        go_roundw
        case rel => exact HEND.out
        case measure => simp [intOf]
      · have k3 : ∃ t, IntKind.u64.wrap (2 * r) = t ∧ IntKind.u64.wrap (IntKind.u64.wrap (t + x) - n) = 2 * r + x - n := by
          refine ⟨_, rfl, ?_⟩
          simp only [IntKind.wrap_u64]
          omega
        obtain ⟨t, k3, k4⟩ := k3
        have k6 : IntKind.u64.wrap (t + x) = IntKind.u64.wrap (2 * r + x) := by rw [← k3]; simp only [IntKind.wrap_u64]; omega
        obtain ⟨T, hT⟩ : ∃ T, T = IntKind.u64.wrap (t + x) := ⟨_, rfl⟩
        rw [← hT] at k4 k6
        have k7 : IntKind.u64.wrap (t + x) = T := hT.symm
        have hset : Row (wr.setCell ⟨g, j, none⟩ (.int .i64 1)) g 3 (iv (mix 2 0 (m / n) 384 j)) := by
          rw [← HST.out, d0, ← iv_set]; exact HA.out.set j _
        by_cases htop : 9223372036854775808 ≤ r
        · have k1 : r / 9223372036854775808 = 1 := by omega
          have k1' : r / 2 ^ 63 = 1 := k1
          have HEND := Lib.hid (show RelOverR g b1 w.heap.size w m n (.int .u64 (2 * r + x - n)) (.bool true) (.int .i64 ((j : Int) - 1)) (wr.setCell ⟨g, j, none⟩ (.int .i64 1)) from
            ⟨j, by omega, rfl, by rw [d1]; congr 1; omega, ⟨true, rfl⟩, hset, HBB.out.other (by show b1 ≠ g; have := hgb.out; omega) _, hl.setCell (by show w.heap.size ≤ g; exact hgB.out) _⟩)
          clear hr0 hr1 hx01 d0 d1 d2 hset htop k6 hT
          go_wp2
          go_roundw
          case rel => exact HEND.out
          case measure => simp [intOf]
        · have k1 : r / 9223372036854775808 = 0 := by omega
          have k1' : r / 2 ^ 63 = 0 := k1
          have k8 : decide (n ≤ T) = true := by rw [k6]; simp only [IntKind.wrap_u64, decide_eq_true_eq]; omega
          have k8' : n ≤ T := by simpa using k8
          have HEND := Lib.hid (show RelOverR g b1 w.heap.size w m n (.int .u64 (2 * r + x - n)) (.bool false) (.int .i64 ((j : Int) - 1)) (wr.setCell ⟨g, j, none⟩ (.int .i64 1)) from
            ⟨j, by omega, rfl, by rw [d1]; congr 1; omega, ⟨false, rfl⟩, hset, HBB.out.other (by show b1 ≠ g; have := hgb.out; omega) _, hl.setCell (by show w.heap.size ≤ g; exact hgB.out) _⟩)
          clear hr0 hr1 hx01 d0 d1 d2 hset htop k6 hT
          go_wp2
          go_roundw
          case rel => exact HEND.out
          case measure => simp [intOf]
set_option maxRecDepth 100000 in
theorem Round (z mode : Int) (h0 : -half ≤ z) (h1 : z < half) (w : World) :
    Calls Tryd.prog 24 #[.agg (wv z), .int .i64 mode] w fun e w' => e = .returned (.tuple #[.int .u32 (overR z 1 mode).1, .int .i64 (overR z 1 mode).2]) ∧ Below w.heap.size w w' := by
  have HA := Lib.hid (Row.new w 48 (wv z))
  have hb := (Below.refl w.heap.size w).alloc (Nat.le_refl _) (.cells (wv z) 48)
  have HB := Lib.hid hb
  have HO := Lib.hid (fun W => Over z 1 mode h0 h1 (by omega) (by omega) W)
  obtain ⟨X, hX⟩ : ∃ X, X = overR z 1 mode := ⟨_, rfl⟩
  rw [← hX] at HO ⊢
  clear hb h0 h1 hX
  go_enter Tryd.func24, Tryd.ntmps24
  go_wp2_with (refine wpList_load_row rfl 48 _ rfl (w.heap.size) rfl 48 _ (0, 0) _ HA.out Tryd.underlying48 rfl (by kernel_rfl) ?_)
  refine (HO.out _).mono ?_
  rintro e w2 ⟨rfl, k2⟩
  go_wp2
  go_ret2
  exact ⟨rfl, HB.out.trans (k2.mono HB.out.size)⟩

end Go.Proofs.YtbbldcbilnkkdaaDoor.Reck
