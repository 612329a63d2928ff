/-
  What the document's audit of colours notes, against the program's. No condition.
-/
import Derived.Test.YtepljdnhnnpdmaaSets7
set_option linter.unusedVariables false
set_option linter.unusedSimpArgs false
namespace Go.Proofs.Ytepljdnhnnpdmaa.Sets
open Go.RowKit Go.Shelf K Feed Desk Forest Case Rank Labels Cores CoreNum Faults

theorem FoundIs.widen {f : Int × Int} {N N' : Nat → Int → Prop} (h : FoundIs f N) (hs : ∀ v r, N v r → N' v r) (hd : ∀ v r, N' v r → ∃ r', r' ≤ r ∧ N v r') : FoundIs f N' := by
  rcases h with ⟨h0, hN⟩ | ⟨v, hv, h0, hN, hle⟩
  · refine .inl ⟨h0, fun v r g => ?_⟩
    obtain ⟨r', -, g'⟩ := hd v r g
    exact hN _ _ g'
  · refine .inr ⟨v, hv, h0, hs _ _ hN, fun v' r' g => ?_⟩
    obtain ⟨r'', hr, g'⟩ := hd v' r' g
    rcases hle _ _ g' with e | ⟨e1, e2⟩
    · exact .inl e
    · exact .inr ⟨e1, by omega⟩
/-- What the edges name: a vertex whose neighbour ahead has its colour. -/
def edgeIs (l : List S8) (n a c : Nat) (x : E3) : Bool := (l.getD (ordS n a c x.s.toNat x.d.toNat) zero8).at 0 == (l.getD (ordD n a c x.s.toNat x.d.toNat) zero8).at 0
def nameE (l : List S8) (n a c : Nat) (N : Nat → Int → Prop) (x : E3) : Nat → Int → Prop := if x.s ≠ x.d then more N (ordD n a c x.s.toNat x.d.toNat) 2 (edgeIs l n a c x) else N
def namedE (l : List S8) (n a c : Nat) (es : List E3) : Nat → Int → Prop := es.foldl (nameE l n a c) (fun _ _ => False)
def ruleE (l : List S8) (n a c : Nat) (R : List Int) (x : E3) : List Int := if x.s ≠ x.d then noteR R (ordD n a c x.s.toNat x.d.toNat) 2 (edgeIs l n a c x) else R
def rulesE (l : List S8) (n a c : Nat) (es : List E3) : List Int := es.foldl (ruleE l n a c) (List.replicate n 0)
theorem namedE_snoc (l : List S8) (n a c : Nat) (es : List E3) (x : E3) : namedE l n a c (es ++ [x]) = nameE l n a c (namedE l n a c es) x := by simp [namedE]
theorem rulesE_snoc (l : List S8) (n a c : Nat) (es : List E3) (x : E3) : rulesE l n a c (es ++ [x]) = ruleE l n a c (rulesE l n a c es) x := by simp [rulesE]
theorem rulesE_length (l : List S8) (n a c : Nat) (es : List E3) : (rulesE l n a c es).length = n :=
  Peel.snoc_ind (P := fun es => (rulesE l n a c es).length = n) (by simp [rulesE]) (fun es x ih => by rw [rulesE_snoc]; unfold ruleE; split <;> simp [noteR_length, ih]) es
theorem noteF_is (l : List S8) (n a c : Nat) (es : List E3) : FoundIs (noteF l n a c es) (namedE l n a c es) :=
  Peel.snoc_ind (P := fun es => FoundIs (noteF l n a c es) (namedE l n a c es)) found_zero (fun es x ih => by
    rw [noteF_snoc, namedE_snoc]
    unfold noteS nameE
    split
    · exact ih.note _ 2 (by decide) _
    · exact ih) es
theorem rulesE_is (l : List S8) (n a c : Nat) (es : List E3) : (∀ x ∈ es, x.s < (n : Int) ∧ x.d < (n : Int)) → RulesIs (rulesE l n a c es) (namedE l n a c es) :=
  Peel.snoc_ind (P := fun es => (∀ x ∈ es, x.s < (n : Int) ∧ x.d < (n : Int)) → RulesIs (rulesE l n a c es) (namedE l n a c es)) (fun _ => rules_zero n) (fun es x ih h => by
    have h1 := ih (fun y hy => h y (by simp [hy]))
    have h2 := h x (by simp)
    rw [rulesE_snoc, namedE_snoc]
    unfold ruleE nameE
    split
    · have b1 := x.sb
      have b2 := x.db
      exact h1.note _ 2 (by decide) _ (by rw [rulesE_length]; exact ordD_lt (by omega) (by omega))
    · exact h1) es
theorem namedE_lt (l : List S8) (n a c : Nat) (es : List E3) : (∀ x ∈ es, x.s < (n : Int) ∧ x.d < (n : Int)) → ∀ v r, namedE l n a c es v r → v < n :=
  Peel.snoc_ind (P := fun es => (∀ x ∈ es, x.s < (n : Int) ∧ x.d < (n : Int)) → ∀ v r, namedE l n a c es v r → v < n) (fun _ v r h => h.elim) (fun es x ih h v r hv => by
    have h1 := ih (fun y hy => h y (by simp [hy]))
    have h2 := h x (by simp)
    rw [namedE_snoc] at hv
    unfold nameE at hv
    split at hv
    · rcases hv with hv | ⟨-, rfl, -⟩
      · exact h1 v r hv
      · have b1 := x.sb
        have b2 := x.db
        exact ordD_lt (by omega) (by omega)
    · exact h1 v r hv) es
/-! ### vertex by vertex -/
def mask (z : Int) : Nat := if z < 64 then 2 ^ z.toNat - 1 else 18446744073709551615
def lookRC (R : List Int) (i : Nat) (z : Int) (y : Nat) : List Int := noteR (noteR R i 1 (decide (63 < z))) i 3 ((y &&& mask z) != mask z || decide (64 < z))
def rulesC (R0 : List Int) (l : List S8) (F : List Nat) : Nat → List Int
  | 0 => R0
  | i + 1 => lookRC (rulesC R0 l F i) i ((l.getD i zero8).at 0) (F.getD i 0)
theorem rulesC_length (R0 : List Int) (l : List S8) (F : List Nat) (i : Nat) : (rulesC R0 l F i).length = R0.length := by
  induction i with
  | zero => rfl
  | succ i ih => rw [rulesC]; unfold lookRC; rw [noteR_length, noteR_length, ih]
def namedC (N0 : Nat → Int → Prop) (l : List S8) (F : List Nat) : Nat → Nat → Int → Prop
  | 0 => N0
  | i + 1 => more (more (namedC N0 l F i) i 1 (decide (63 < (l.getD i zero8).at 0))) i 3 ((F.getD i 0 &&& mask ((l.getD i zero8).at 0)) != mask ((l.getD i zero8).at 0) || decide (64 < (l.getD i zero8).at 0))
def namedP (N0 : Nat → Int → Prop) (l : List S8) (F : List Nat) : Nat → Nat → Int → Prop
  | 0 => N0
  | i + 1 => if 63 < (l.getD i zero8).at 0 then more (namedP N0 l F i) i 1 true else more (namedP N0 l F i) i 3 ((F.getD i 0 &&& (2 ^ ((l.getD i zero8).at 0).toNat - 1)) != 2 ^ ((l.getD i zero8).at 0).toNat - 1)
theorem rulesC_is {R0 : List Int} {N0 : Nat → Int → Prop} (h0 : RulesIs R0 N0) (l : List S8) (F : List Nat) (i : Nat) (hi : i ≤ R0.length) : RulesIs (rulesC R0 l F i) (namedC N0 l F i) := by
  induction i with
  | zero => exact h0
  | succ i ih =>
    have h := ih (by omega)
    have hl := rulesC_length R0 l F i
    exact (h.note i 1 (by decide) _ (by omega)).note i 3 (by decide) _ (by rw [noteR_length]; omega)
theorem notesP_is {f0 : Int × Int} {N0 : Nat → Int → Prop} (h0 : FoundIs f0 N0) (l : List S8) (F : List Nat) (i : Nat) : FoundIs (notesL lookC f0 l F i) (namedP N0 l F i) := by
  induction i with
  | zero => exact h0
  | succ i ih =>
    rw [notesL, namedP]
    unfold lookC
    split
    · exact ih.note i 1 (by decide) true
    · exact ih.note i 3 (by decide) _
theorem namedC_lt {n : Nat} {N0 : Nat → Int → Prop} (h0 : ∀ v r, N0 v r → v < n) (l : List S8) (F : List Nat) (i : Nat) (hi : i ≤ n) : ∀ v r, namedC N0 l F i v r → v < n := by
  induction i with
  | zero => exact h0
  | succ i ih =>
    intro v r h
    rcases h with (h | ⟨-, h, -⟩) | ⟨-, h, -⟩
    · exact ih (by omega) v r h
    · omega
    · omega
theorem named_sub (N0 : Nat → Int → Prop) (l : List S8) (F : List Nat) (i : Nat) : (∀ v r, namedP N0 l F i v r → namedC N0 l F i v r) ∧ ∀ v r, namedC N0 l F i v r → ∃ r', r' ≤ r ∧ namedP N0 l F i v r' := by
  induction i with
  | zero => exact ⟨fun v r h => h, fun v r h => ⟨r, Int.le_refl _, h⟩⟩
  | succ i ih =>
    rw [namedP, namedC]
    obtain ⟨z, hz⟩ : ∃ z, (l.getD i zero8).at 0 = z := ⟨_, rfl⟩
    rw [hz]
    by_cases h : 63 < z
    · rw [if_pos h]
      constructor
      · rintro v r (g | ⟨-, rfl, rfl⟩)
        · exact .inl (.inl (ih.1 v r g))
        · exact .inl (.inr ⟨by simpa using h, rfl, rfl⟩)
      · rintro v r ((g | ⟨-, rfl, rfl⟩) | ⟨-, rfl, rfl⟩)
        · obtain ⟨r', h1, h2⟩ := ih.2 v r g
          exact ⟨r', h1, .inl h2⟩
        · exact ⟨1, Int.le_refl _, .inr ⟨rfl, rfl, rfl⟩⟩
        · exact ⟨1, by decide, .inr ⟨rfl, rfl, rfl⟩⟩
    · rw [if_neg h]
      have hm : mask z = 2 ^ z.toNat - 1 := by unfold mask; rw [if_pos (by omega)]
      have hd : decide (64 < z) = false := by simp; omega
      have hd1 : decide (63 < z) = false := by simp; omega
      rw [hm, hd, hd1, Bool.or_false]
      constructor
      · rintro v r (g | g)
        · exact .inl (.inl (ih.1 v r g))
        · exact .inr g
      · rintro v r ((g | ⟨g, -, -⟩) | g)
        · obtain ⟨r', h1, h2⟩ := ih.2 v r g
          exact ⟨r', h1, .inl h2⟩
        · cases g
        · exact ⟨r, Int.le_refl _, .inr g⟩
/-- The program's verdict is the document's. -/
theorem colours_same (l : List S8) (n a c : Nat) (es : List E3) (F : List Nat) (hgood : ∀ x ∈ es, x.s < (n : Int) ∧ x.d < (n : Int)) :
    verdictOf 0 (firstF (rulesC (rulesE l n a c es) l F n) (rulesC (rulesE l n a c es) l F n).length 0) = verdictOf 0 (notesL lookC (noteF l n a c es) l F n) := by
  have hR := rulesC_is (rulesE_is l n a c es hgood) l F n (by rw [rulesE_length]; exact Nat.le_refl _)
  have hF := FoundIs.widen (notesP_is (noteF_is l n a c es) l F n) (named_sub (namedE l n a c es) l F n).1 (named_sub (namedE l n a c es) l F n).2
  exact verdict_same hR (fun v r h => by rw [rulesC_length, rulesE_length]; exact namedC_lt (namedE_lt l n a c es hgood) l F n (Nat.le_refl _) v r h) hF
theorem sets_same (l : List S8) (n a c : Nat) (es : List E3) :
    verdictOf 0 (firstF (rulesI n l (foldA l n a c es) n) (rulesI n l (foldA l n a c es) n).length 0) = verdictOf 0 (notesL lookI' (0, 0) l (foldA l n a c es) n) :=
  verdict_same (rulesI_is n l _ n (Nat.le_refl _)) (fun v r h => by rw [rulesI_length]; exact namedI_lt l _ n v r h) (notesI_is l _ (foldA_le l n a c es) n)
end Go.Proofs.Ytepljdnhnnpdmaa.Sets
