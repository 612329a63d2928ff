/-
  Orders of vertices: the program's checks and places, the document's. No condition.
-/
import Derived.Test.YtepljdnhnnpdmaaCase3
import Derived.Outline
import Derived.WalkLawsBesides
import Derived.BigRegion
import Derived.Deep.LoopGhost
set_option linter.unusedVariables false
set_option linter.unusedSimpArgs false
namespace Go.Proofs.Ytepljdnhnnpdmaa.Rank
open Go.RowKit Go.Shelf K Feed Desk

def Rel (k : IntKind) (a b : Nat) (w : World) (x y : Value) (wr : World) : Prop := ∃ m n : Nat, m ≤ 4294967295 ∧ n ≤ 4294967295 ∧ x = .int k m ∧ y = .int k n ∧ Nat.gcd m n = Nat.gcd a b ∧ Below w.heap.size w wr
theorem ret_nat {k : IntKind} {a b : Int} (h : a = b) : Ending.returned (.int k a) = .returned (.int k b) := by rw [h]
theorem common (a b : Nat) (ha : a ≤ 4294967295) (hb : b ≤ 4294967295) (w : World) :
    Calls Try.prog 112 #[.int .u32 a, .int .u32 b] w fun e w' => e = .returned (.int .u32 (Nat.gcd a b : Nat)) ∧ Below w.heap.size w w' := by
  go_enter Try.func112, Try.ntmps112
  go_wp2
  go_loopw [0, 1] (fun x y wr => Rel .u32 a b w x y wr) (fun _ y _ => (intOf y).toNat)
  case atStart => exact ⟨a, b, ha, hb, rfl, rfl, rfl, Below.refl _ _⟩
  case round =>
    obtain ⟨m, n, hm, hn, rfl, rfl, hg, hl⟩ := hrel
    have hG := Lib.hid hg
    clear hg
    rcases Nat.eq_zero_or_pos n with rfl | h0
    · go_wp2
      go_ret
      exact ⟨ret_nat (by rw [← hG.out, Nat.gcd_zero_right]), hl⟩
    · have hlt := Nat.mod_lt m h0
      have hp : (0 : Int) < (n : Int) := by omega
      have hL := Lib.hid hl
      clear hl
      go_wp2
      go_region
      all_goals
        go_wp2
        go_roundw
        case rel => exact ⟨n, m % n, hn, by omega, rfl, by go_num, by rw [← hG.out, Nat.gcd_comm n, ← Nat.gcd_rec, Nat.gcd_comm], hL.out.drew⟩
        case measure => simp [intOf]; omega
/-- Is it an order of all vertices? -/
def isOrder (n a c : Nat) : Int := if n < 1 ∨ 2147483647 < n ∨ n ≤ a ∨ n ≤ c ∨ Nat.gcd a n ≠ 1 then 140 else 0
set_option maxHeartbeats 1000000 in
theorem check (n a c : Nat) (hn : n ≤ 4294967295) (ha : a ≤ 4294967295) (hc : c ≤ 4294967295) (w : World) :
    Calls Try.prog 85 #[.agg #[.int .u32 n, .int .u32 a, .int .u32 c]] w fun e w' => e = .returned (.int .i64 (isOrder n a c)) ∧ Below w.heap.size w w' := by
  have hcm := fun W => common a n ha hn W
  by_cases h1 : n < 1
  · rw [show isOrder n a c = 140 from if_pos (.inl h1)]
    have d1 : (n : Int) < 1 := by omega
    clear hcm
    go_enter Try.func85, Try.ntmps85
    go_wp2
    go_ret
    exact ⟨rfl, (Below.refl _ _).alloc (Nat.le_refl _) _⟩
  have d1 : ¬ (n : Int) < 1 := by omega
  by_cases h2 : 2147483647 < n
  · rw [show isOrder n a c = 140 from if_pos (.inr (.inl h2))]
    have d2 : (2147483647 : Int) < n := by omega
    clear hcm
    go_enter Try.func85, Try.ntmps85
    go_wp2
    go_ret
    exact ⟨rfl, (Below.refl _ _).alloc (Nat.le_refl _) _⟩
  have d2 : ¬ (2147483647 : Int) < n := by omega
  by_cases h3 : n ≤ a
  · rw [show isOrder n a c = 140 from if_pos (.inr (.inr (.inl h3)))]
    clear hcm
    go_enter Try.func85, Try.ntmps85
    go_wp2
    go_ret
    exact ⟨rfl, (Below.refl _ _).alloc (Nat.le_refl _) _⟩
  by_cases h4 : n ≤ c
  · rw [show isOrder n a c = 140 from if_pos (.inr (.inr (.inr (.inl h4))))]
    clear hcm
    go_enter Try.func85, Try.ntmps85
    go_wp2
    go_ret
    exact ⟨rfl, (Below.refl _ _).alloc (Nat.le_refl _) _⟩
  obtain ⟨g, hg⟩ : ∃ g, g = Nat.gcd a n := ⟨_, rfl⟩
  by_cases h5 : g ≠ 1
  · rw [show isOrder n a c = 140 from if_pos (.inr (.inr (.inr (.inr (hg ▸ h5)))))]
    rw [← hg] at hcm
    clear hg
    have d5 : ((g : Int) != 1) = true := by simp; omega
    have d6 : ((g : Int) == 1) = false := by simp; omega
    have H := Lib.hid hcm
    clear hcm
    go_enter Try.func85, Try.ntmps85
    go_wp2_with fail
    refine (H.out _).mono ?_
    rintro e w1 ⟨rfl, hw1⟩
    go_wp2
    go_ret
    exact ⟨rfl, ((Below.refl _ _).alloc (Nat.le_refl _) _).trans (hw1.mono (by simp))⟩
  · rw [show isOrder n a c = 0 from if_neg (by rw [← hg]; omega)]
    obtain rfl : g = 1 := by omega
    rw [← hg] at hcm
    clear hg
    have H := Lib.hid hcm
    clear hcm
    go_enter Try.func85, Try.ntmps85
    go_wp2_with fail
    refine (H.out _).mono ?_
    rintro e w1 ⟨rfl, hw1⟩
    go_wp2
    go_ret
    exact ⟨rfl, ((Below.refl _ _).alloc (Nat.le_refl _) _).trans (hw1.mono (by simp))⟩
theorem isOrder_yes {n a c : Nat} (h : isOrder n a c = 0) : ¬ n < 1 ∧ ¬ 2147483647 < n ∧ ¬ n ≤ a ∧ ¬ n ≤ c := by
  unfold isOrder at h
  split at h
  · cases h
  · omega
theorem isOrder_no {n a c : Nat} (h : isOrder n a c ≠ 0) : isOrder n a c = 140 := by
  unfold isOrder at h ⊢
  split
  · rfl
  · rw [if_neg (by assumption)] at h; exact absurd rfl h
def placeV (n a c v : Nat) : Int := if isOrder n a c ≠ 0 then 0 else if n ≤ v then 0 else ((a * v + c) % n : Nat)
def placeE (n a c v : Nat) : Int := if isOrder n a c ≠ 0 then 140 else if n ≤ v then 2 else 0
theorem ret2_u32 {a b : Int} {v : Value} (h : a = b) : Ending.returned (.tuple #[.int .u32 a, v]) = .returned (.tuple #[.int .u32 b, v]) := by rw [h]
theorem place_num (p c n : Nat) (h0 : 0 < n) (hn : n ≤ 4294967295) : ((p : Int) + c) % n % 4294967296 = ((p + c) % n : Nat) := by
  have hlt := Nat.mod_lt (p + c) h0
  have e1 : ((p : Int) + c) % n = (((p + c) % n : Nat) : Int) := by push_cast; rfl
  rw [e1]
  omega
theorem inner (n a c v : Nat) (h : isOrder n a c = 0) (hv : v ≤ 4294967295) (w : World) :
    Calls Try.prog 122 #[.agg #[.int .u32 n, .int .u32 a, .int .u32 c], .int .u32 v] w fun e w' => e = .returned (.tuple #[.int .u32 (placeV n a c v), .int .i64 (placeE n a c v)]) ∧ Below w.heap.size w w' := by
  obtain ⟨g1, g2, g3, g4⟩ := isOrder_yes h
  by_cases h2 : n ≤ v
  · rw [show placeV n a c v = 0 by unfold placeV; rw [if_neg (by simp [h]), if_pos h2], show placeE n a c v = 2 by unfold placeE; rw [if_neg (by simp [h]), if_pos h2]]
    clear h
    go_enter Try.func122, Try.ntmps122
    go_wp2
    go_ret2
    exact ⟨rfl, (Below.refl _ _).alloc (Nat.le_refl _) _⟩
  · rw [show placeV n a c v = ((a * v + c) % n : Nat) by unfold placeV; rw [if_neg (by simp [h]), if_neg h2], show placeE n a c v = 0 by unfold placeE; rw [if_neg (by simp [h]), if_neg h2]]
    clear h
    have hb : a * v ≤ 2147483647 * 2147483647 := Nat.mul_le_mul (by omega) (by omega)
    obtain ⟨p, hp⟩ : ∃ p, p = a * v := ⟨_, rfl⟩
    have hx : (a : Int) * (v : Int) = (p : Int) := by rw [hp]; push_cast; rfl
    rw [← hp] at hb ⊢
    clear hp
    have he := Lib.hid (place_num p c n (by omega) (by omega))
    have hn : (0 : Int) < (n : Int) := by omega
    go_enter Try.func122, Try.ntmps122
    go_wp2
    go_ret2
    exact ⟨ret2_u32 he.out, (Below.refl _ _).alloc (Nat.le_refl _) _⟩
theorem place (n a c v : Nat) (hn : n ≤ 4294967295) (ha : a ≤ 4294967295) (hc : c ≤ 4294967295) (hv : v ≤ 4294967295) (w : World) :
    Calls Try.prog 113 #[.agg #[.int .u32 n, .int .u32 a, .int .u32 c], .int .u32 v] w fun e w' => e = .returned (.tuple #[.int .u32 (placeV n a c v), .int .i64 (placeE n a c v)]) ∧ Below w.heap.size w w' := by
  have hC := Lib.hid (fun W => check n a c hn ha hc W)
  have hR := Lib.hid ((Below.refl w.heap.size w).alloc (Nat.le_refl _) (.cells #[.int .u32 n, .int .u32 a, .int .u32 c] 72))
  have hcell := Lib.hid (fun W' (h : Below (w.alloc (.cells #[.int .u32 n, .int .u32 a, .int .u32 c] 72)).heap.size (w.alloc (.cells #[.int .u32 n, .int .u32 a, .int .u32 c] 72)) W') o => K.row_below h (by simp) (heap_alloc_new w (.cells #[.int .u32 n, .int .u32 a, .int .u32 c] 72)) o)
  by_cases h : isOrder n a c = 0
  · have hI := Lib.hid (fun W => inner n a c v h hv W)
    have H := Lib.hid h
    clear h
    go_enter Try.func113, Try.ntmps113
    go_wp2_with fail
    refine (hC.out _).mono ?_
    rintro e w1 ⟨rfl, hw1⟩
    rw [H.out]
    have hx := hcell.out w1 hw1
    go_wp2_with fail
    refine (hI.out _).mono ?_
    rintro e w2 ⟨rfl, hw2⟩
    clear hx
    go_wp2
    go_ret2
    exact ⟨rfl, (hR.out.trans (hw1.mono (by simp))).trans (hw2.mono (by have := hw1.size; simp at this; omega))⟩
  · rw [show placeV n a c v = 0 by unfold placeV; rw [if_pos h], show placeE n a c v = 140 by unfold placeE; rw [if_pos h]]
    have H := Lib.hid (isOrder_no h)
    clear h
    go_enter Try.func113, Try.ntmps113
    go_wp2_with fail
    refine (hC.out _).mono ?_
    rintro e w1 ⟨rfl, hw1⟩
    rw [H.out]
    go_wp2
    go_ret2
    exact ⟨rfl, hR.out.trans (hw1.mono (by simp))⟩

/-! ### the document's -/
def RelO (n a : Nat) (x y : Value) : Prop := ∃ p q : Nat, p ≤ 4294967295 ∧ q ≤ 4294967295 ∧ x = .int .u32 p ∧ y = .int .u32 q ∧ Nat.gcd p q = Nat.gcd a n
set_option maxHeartbeats 1000000 in
theorem ordered18 (n a c : Nat) (hn : n ≤ 4294967295) (ha : a ≤ 4294967295) (hc : c ≤ 4294967295) (w : World) :
    Calls Try.prog 51 #[.agg #[.int .u32 n, .int .u32 a, .int .u32 c]] w fun e w' => e = .returned (.int .i64 (isOrder n a c)) ∧ Below w.heap.size w w' := by
  by_cases h1 : n < 1
  · rw [show isOrder n a c = 140 from if_pos (.inl h1)]
    have d1 : (n : Int) < 1 := by omega
    go_enter Try.func51, Try.ntmps51
    go_wp2
    go_ret
    exact ⟨rfl, (Below.refl _ _).alloc (Nat.le_refl _) _⟩
  have d1 : ¬ (n : Int) < 1 := by omega
  by_cases h2 : 2147483647 < n
  · rw [show isOrder n a c = 140 from if_pos (.inr (.inl h2))]
    have d2 : (2147483647 : Int) < n := by omega
    go_enter Try.func51, Try.ntmps51
    go_wp2
    go_ret
    exact ⟨rfl, (Below.refl _ _).alloc (Nat.le_refl _) _⟩
  have d2 : ¬ (2147483647 : Int) < n := by omega
  by_cases h3 : n ≤ a
  · rw [show isOrder n a c = 140 from if_pos (.inr (.inr (.inl h3)))]
    go_enter Try.func51, Try.ntmps51
    go_wp2
    go_ret
    exact ⟨rfl, (Below.refl _ _).alloc (Nat.le_refl _) _⟩
  by_cases h4 : n ≤ c
  · rw [show isOrder n a c = 140 from if_pos (.inr (.inr (.inr (.inl h4))))]
    go_enter Try.func51, Try.ntmps51
    go_wp2
    go_ret
    exact ⟨rfl, (Below.refl _ _).alloc (Nat.le_refl _) _⟩
  go_enter Try.func51, Try.ntmps51
  go_wp2
  go_loop [3, 4, 5] (fun x y _ => RelO n a x y) (fun x _ _ => (intOf x).toNat)
  case atStart => exact ⟨a, n, ha, hn, rfl, rfl, rfl⟩
  case round =>
    obtain ⟨p, q, hp, hq, rfl, rfl, hg⟩ := hrel
    have hG := Lib.hid hg
    clear hg
    rcases Nat.eq_zero_or_pos p with rfl | h0
    · have hg : Nat.gcd a n = q := by rw [← hG.out, Nat.gcd_zero_left]
      by_cases h5 : q ≠ 1
      · have hO := Lib.hid (show isOrder n a c = 140 from if_pos (.inr (.inr (.inr (.inr (hg ▸ h5))))))
        have d5 : ((q : Int) != 1) = true := by simp; omega
        clear h5 hg
        go_wp2
        go_ret
        exact ⟨ret_nat hO.out.symm, (Below.refl _ _).alloc (Nat.le_refl _) _⟩
      · have hO := Lib.hid (show isOrder n a c = 0 from if_neg (by rw [hg]; omega))
        obtain rfl : q = 1 := by omega
        clear h5 hg
        go_wp2
        go_ret
        exact ⟨ret_nat hO.out.symm, (Below.refl _ _).alloc (Nat.le_refl _) _⟩
    · have hlt := Nat.mod_lt q h0
      have hpp : (0 : Int) < (p : Int) := by omega
      have d1 : ((p : Int) != 0) = true := by simp; omega
      go_wp2
      go_round
      case rel => exact ⟨q % p, p, by omega, hp, by go_num, rfl, by rw [← hG.out, ← Nat.gcd_rec]⟩
      case measure => simp [intOf]; omega
theorem coprime_inj {n a c u v : Nat} (h : Nat.gcd a n = 1) (hu : u < n) (hv : v < n) (e : (a * u + c) % n = (a * v + c) % n) : u = v := by
  have key : ∀ {u v : Nat}, u < n → v ≤ u → (a * u + c) % n = (a * v + c) % n → u = v := by
    intro u v hu hle e
    have h1 : n ∣ (a * u + c) - (a * v + c) := Nat.dvd_of_mod_eq_zero (Nat.sub_mod_eq_zero_of_mod_eq e)
    rw [Nat.add_sub_add_right, ← Nat.mul_sub] at h1
    have h2 : n ∣ u - v := (Nat.Coprime.dvd_of_dvd_mul_left (Nat.Coprime.symm h) h1)
    have := Nat.eq_zero_of_dvd_of_lt h2 (by omega)
    omega
  rcases Nat.le_total v u with g | g
  · exact key hu g e
  · exact (key hv g e.symm).symm
end Go.Proofs.Ytepljdnhnnpdmaa.Rank
