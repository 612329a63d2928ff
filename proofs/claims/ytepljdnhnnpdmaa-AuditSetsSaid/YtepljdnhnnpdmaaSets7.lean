/-
  The document's audit of sets. No condition.
-/
import Derived.Test.YtepljdnhnnpdmaaSets6
import Derived.Test.YtepljdnhnnpdmaaCoreNum
import Derived.Test.YtepljdnhnnpdmaaFaults
set_option linter.unusedVariables false
set_option linter.unusedSimpArgs false
namespace Go.Proofs.Ytepljdnhnnpdmaa.Sets
open Go.RowKit Go.Shelf K Feed Desk Forest Case Rank Labels Cores CoreNum Faults

theorem ret_u64 {a b : Int} (h : a = b) : Ending.returned (.int .u64 a) = .returned (.int .u64 b) := by rw [h]
theorem place18 (n a c v : Nat) (h : isOrder n a c = 0) (hv : v < n) (w : World) :
    Calls Try.prog 89 #[.agg #[.int .u32 n, .int .u32 a, .int .u32 c], .int .u32 v] w fun e w' => e = .returned (.int .u64 (pl n a c v : Nat)) ∧ Below w.heap.size w w' := by
  obtain ⟨g1, g2, g3, g4⟩ := isOrder_yes h
  clear h
  unfold pl
  have hb : a * v ≤ 2147483647 * 2147483647 := Nat.mul_le_mul (by omega) (by omega)
  obtain ⟨p, hp⟩ : ∃ p, p = a * v := ⟨_, rfl⟩
  have hx : (a : Int) * (v : Int) = (p : Int) := by rw [hp]; push_cast; rfl
  rw [← hp] at hb ⊢
  clear hp
  have hn : (0 : Int) < (n : Int) := by omega
  have he := Lib.hid (show ((p : Int) + c) % n = (((p + c) % n : Nat) : Int) by push_cast; rfl)
  go_enter Try.func89, Try.ntmps89
  go_wp2
  go_ret
  exact ⟨ret_u64 he.out, (Below.refl _ _).alloc (Nat.le_refl _) _⟩

/-! ### what is noted -/
def lookR (R : List Int) (v : Nat) (z : Int) (y : Nat) : List Int := noteR (noteR (noteR R v 1 (decide (1 < z))) v 2 (z == 1 && (y != 0))) v 3 (z == 0 && !(y != 0))
theorem lookR_length (R : List Int) (v : Nat) (z : Int) (y : Nat) : (lookR R v z y).length = R.length := by unfold lookR; rw [noteR_length, noteR_length, noteR_length]
def rulesI (n : Nat) (l : List S8) (F : List Nat) : Nat → List Int
  | 0 => List.replicate n 0
  | i + 1 => lookR (rulesI n l F i) i ((l.getD i zero8).at 0) (F.getD i 0)
theorem rulesI_length (n : Nat) (l : List S8) (F : List Nat) (i : Nat) : (rulesI n l F i).length = n := by
  induction i with
  | zero => simp [rulesI]
  | succ i ih => rw [rulesI, lookR_length, ih]
def namedI (l : List S8) (F : List Nat) : Nat → Nat → Int → Prop
  | 0 => fun _ _ => False
  | i + 1 => more (more (more (namedI l F i) i 1 (decide (1 < (l.getD i zero8).at 0))) i 2 ((l.getD i zero8).at 0 == 1 && (F.getD i 0 != 0))) i 3 ((l.getD i zero8).at 0 == 0 && !(F.getD i 0 != 0))
theorem namedI_lt (l : List S8) (F : List Nat) (i : Nat) : ∀ v r, namedI l F i v r → v < i := by
  induction i with
  | zero => intro v r h; exact h.elim
  | succ i ih =>
    intro v r h
    rcases h with ((h | ⟨-, h, -⟩) | ⟨-, h, -⟩) | ⟨-, h, -⟩
    · have := ih v r h; omega
    · omega
    · omega
    · omega
theorem rulesI_is (n : Nat) (l : List S8) (F : List Nat) (i : Nat) (hi : i ≤ n) : RulesIs (rulesI n l F i) (namedI l F i) := by
  induction i with
  | zero => exact rules_zero n
  | succ i ih =>
    have h := ih (by omega)
    have hl := rulesI_length n l F i
    exact ((h.note i 1 (by decide) _ (by omega)).note i 2 (by decide) _ (by rw [noteR_length]; omega)).note i 3 (by decide) _ (by rw [noteR_length, noteR_length]; omega)
theorem notesI_is (l : List S8) (F : List Nat) (hF : ∀ v, F.getD v 0 ≤ 1) (i : Nat) : FoundIs (notesL lookI' (0, 0) l F i) (namedI l F i) := by
  induction i with
  | zero => exact found_zero
  | succ i ih =>
    have h := ((ih.note i 1 (by decide) (decide (1 < (l.getD i zero8).at 0))).note i 2 (by decide) ((l.getD i zero8).at 0 == 1 && (F.getD i 0 != 0))).note i 3 (by decide) ((l.getD i zero8).at 0 == 0 && !(F.getD i 0 != 0))
    have e1 : (F.getD i 0 != 0) = (((F.getD i 0 : Nat) : Int) == 1) := by
      have := hF i
      rcases Nat.lt_or_ge (F.getD i 0) 1 with g | g
      · rw [show F.getD i 0 = 0 by omega]; rfl
      · rw [show F.getD i 0 = 1 by omega]; rfl
    have e2 : (!(F.getD i 0 != 0)) = (((F.getD i 0 : Nat) : Int) == 0) := by
      have := hF i
      rcases Nat.lt_or_ge (F.getD i 0) 1 with g | g
      · rw [show F.getD i 0 = 0 by omega]; rfl
      · rw [show F.getD i 0 = 1 by omega]; rfl
    rw [namedI]
    show FoundIs (lookI _ _ _ _) _
    unfold lookI
    rw [← e2, ← e1]
    exact h
theorem foldA_le (l : List S8) (n a c : Nat) (es : List E3) : ∀ v, (foldA l n a c es).getD v 0 ≤ 1 :=
  Peel.snoc_ind (P := fun es => ∀ v, (foldA l n a c es).getD v 0 ≤ 1) (fun v => by simp only [foldA, List.foldl_nil, List.getD_eq_getElem?_getD, List.getElem?_replicate]; split <;> simp) (fun es x ih => by
    intro v
    rw [foldA_snoc]
    unfold stepA
    split
    · exact Peel.getD_set_le ih (Nat.le_refl 1) v
    · exact ih v) es
theorem GRow.orset {W : World} {g : Nat} {F : List Nat} (h : GRow W g F) {v : Nat} (hv : v < F.length) (c : Bool) : GRow (W.setCell ⟨g, v, none⟩ (.bool ((F.getD v 0 != 0) || c))) g (if c = true then F.set v 1 else F) := by
  cases c with
  | true => rw [if_pos rfl, Bool.or_true]; exact h.set v 0
  | false =>
    rw [if_neg (by simp), Bool.or_false]
    have := Row.set h v (.bool (F.getD v 0 != 0))
    unfold GRow
    have e : (bv F).setIfInBounds v (.bool (F.getD v 0 != 0)) = bv F := by
      unfold bv
      simp only [List.setIfInBounds_toArray]
      congr 1
      refine List.ext_getElem? fun j => ?_
      by_cases e : v = j
      · subst e
        rw [List.getElem?_set_self (by simpa using hv)]
        simp [List.getD_eq_getElem?_getD, hv]
      · rw [List.getElem?_set_ne e]
    rw [e] at this
    exact this
end Go.Proofs.Ytepljdnhnnpdmaa.Sets
