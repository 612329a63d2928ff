/-
  The document's faults: of each vertex the least rule that is broken, and the least vertex with one; against the desk's single note. No condition.
-/
import Derived.Test.YtepljdnhnnpdmaaCase3
set_option linter.unusedVariables false
set_option linter.unusedSimpArgs false
namespace Go.Proofs.Ytepljdnhnnpdmaa.Faults
open Go.RowKit Go.Shelf K Feed Desk Case

/-! ### the plain law -/
/-- What the desk holds, when these rules are broken at these vertices. -/
def FoundIs (f : Int × Int) (N : Nat → Int → Prop) : Prop :=
  (f.2 = 0 ∧ ∀ v r, ¬ N v r) ∨ (∃ v : Nat, f.1 = v ∧ f.2 ≠ 0 ∧ N v f.2 ∧ ∀ v' r', N v' r' → v < v' ∨ (v = v' ∧ f.2 ≤ r'))
def more (N : Nat → Int → Prop) (v : Nat) (r : Int) (is : Bool) : Nat → Int → Prop := fun v' r' => N v' r' ∨ (is = true ∧ v' = v ∧ r' = r)
theorem FoundIs.note {f : Int × Int} {N : Nat → Int → Prop} (h : FoundIs f N) (v : Nat) (r : Int) (hr : r ≠ 0) (is : Bool) : FoundIs (noteD f v r is) (more N v r is) := by
  unfold noteD
  by_cases hi : is = true
  · rcases h with ⟨h0, hN⟩ | ⟨w, hw, h0, hN, hle⟩
    · rw [if_pos ⟨hi, .inl h0⟩]
      refine .inr ⟨v, rfl, hr, .inr ⟨hi, rfl, rfl⟩, fun v' r' h' => ?_⟩
      rcases h' with h' | ⟨-, rfl, rfl⟩
      · exact absurd h' (hN _ _)
      · exact .inr ⟨rfl, Int.le_refl _⟩
    · by_cases hc : (v : Int) < f.1 ∨ ((v : Int) = f.1 ∧ r < f.2)
      · rw [if_pos ⟨hi, .inr hc⟩]
        refine .inr ⟨v, rfl, hr, .inr ⟨hi, rfl, rfl⟩, fun v' r' h' => ?_⟩
        rcases h' with h' | ⟨-, rfl, rfl⟩
        · have := hle _ _ h'
          rw [hw] at hc
          simp only at hc ⊢
          omega
        · exact .inr ⟨rfl, Int.le_refl _⟩
      · rw [if_neg (by intro h'; rcases h'.2 with h' | h'; exact h0 h'; exact hc h')]
        refine .inr ⟨w, hw, h0, .inl hN, fun v' r' h' => ?_⟩
        rcases h' with h' | ⟨-, rfl, rfl⟩
        · exact hle _ _ h'
        · rw [hw] at hc
          omega
  · rw [if_neg (fun h => hi h.1)]
    have e : more N v r is = N := by
      funext v' r'
      refine propext ⟨fun h' => h'.elim id (fun h' => absurd h'.1 hi), .inl⟩
    rw [e]; exact h
def noteR (R : List Int) (v : Nat) (r : Int) (is : Bool) : List Int := if is = true ∧ (R.getD v 0 = 0 ∨ r < R.getD v 0) then R.set v r else R
theorem noteR_length (R : List Int) (v : Nat) (r : Int) (is : Bool) : (noteR R v r is).length = R.length := by unfold noteR; split <;> simp
def RulesIs (R : List Int) (N : Nat → Int → Prop) : Prop :=
  ∀ v, v < R.length → (R.getD v 0 = 0 ∧ ∀ r, ¬ N v r) ∨ (R.getD v 0 ≠ 0 ∧ N v (R.getD v 0) ∧ ∀ r, N v r → R.getD v 0 ≤ r)
theorem RulesIs.note {R : List Int} {N : Nat → Int → Prop} (h : RulesIs R N) (v : Nat) (r : Int) (hr : r ≠ 0) (is : Bool) (hv : v < R.length) : RulesIs (noteR R v r is) (more N v r is) := by
  intro x hx
  rw [noteR_length] at hx
  have hx' := h x hx
  have hgs : ∀ y, (R.set v r).getD y 0 = if y = v then r else R.getD y 0 := by
    intro y
    by_cases e : y = v
    · subst e; rw [if_pos rfl]; simp [List.getD_eq_getElem?_getD, hv]
    · rw [if_neg e]; simp [List.getD_eq_getElem?_getD, List.getElem?_set_ne (Ne.symm e)]
  by_cases e : x = v
  · subst e
    unfold noteR more
    by_cases hi : is = true
    · by_cases hc : R.getD x 0 = 0 ∨ r < R.getD x 0
      · rw [if_pos ⟨hi, hc⟩, hgs, if_pos rfl]
        refine .inr ⟨hr, .inr ⟨hi, rfl, rfl⟩, fun r' h' => ?_⟩
        rcases h' with h' | ⟨-, -, rfl⟩
        · rcases hx' with ⟨-, h2⟩ | ⟨h1, -, h3⟩
          · exact absurd h' (h2 _)
          · have := h3 _ h'; omega
        · exact Int.le_refl _
      · rw [if_neg (fun h => hc h.2)]
        rcases hx' with ⟨h1, -⟩ | ⟨h1, h2, h3⟩
        · exact absurd (.inl h1) hc
        · refine .inr ⟨h1, .inl h2, fun r' h' => ?_⟩
          rcases h' with h' | ⟨-, -, rfl⟩
          · exact h3 _ h'
          · omega
    · rw [if_neg (fun h => hi h.1)]
      rcases hx' with ⟨h1, h2⟩ | ⟨h1, h2, h3⟩
      · exact .inl ⟨h1, fun r' h' => h'.elim (h2 _) (fun h' => hi h'.1)⟩
      · exact .inr ⟨h1, .inl h2, fun r' h' => h'.elim (h3 _) (fun h' => absurd h'.1 hi)⟩
  · have e1 : (noteR R v r is).getD x 0 = R.getD x 0 := by
      unfold noteR
      split
      · rw [hgs, if_neg e]
      · rfl
    rw [e1]
    unfold more
    rcases hx' with ⟨h1, h2⟩ | ⟨h1, h2, h3⟩
    · exact .inl ⟨h1, fun r' h' => h'.elim (h2 _) (fun h' => e h'.2.1)⟩
    · exact .inr ⟨h1, .inl h2, fun r' h' => h'.elim (h3 _) (fun h' => absurd h'.2.1 e)⟩
theorem RulesIs.iff {R : List Int} {N N' : Nat → Int → Prop} (h : RulesIs R N) (e : ∀ v r, N v r ↔ N' v r) : RulesIs R N' := by
  have : N = N' := by funext v r; exact propext (e v r)
  exact this ▸ h
theorem FoundIs.iff {f : Int × Int} {N N' : Nat → Int → Prop} (h : FoundIs f N) (e : ∀ v r, N v r ↔ N' v r) : FoundIs f N' := by
  have : N = N' := by funext v r; exact propext (e v r)
  exact this ▸ h
theorem rules_zero (n : Nat) : RulesIs (List.replicate n 0) (fun _ _ => False) := fun v hv => .inl ⟨by simp [List.getD_eq_getElem?_getD, List.getElem?_replicate]; split <;> simp, fun _ h => h⟩
theorem found_zero : FoundIs (0, 0) (fun _ _ => False) := .inl ⟨rfl, fun _ _ h => h⟩
/-- What the document's list tells, from its least vertex on. -/
def firstF (R : List Int) : Nat → Nat → Int × Int
  | 0, _ => (0, 0)
  | m + 1, v => if R.getD v 0 ≠ 0 then (v, R.getD v 0) else firstF R m (v + 1)
theorem firstF_is {R : List Int} {N : Nat → Int → Prop} (hR : RulesIs R N) (hN : ∀ v r, N v r → v < R.length) {f : Int × Int} (hf : FoundIs f N) :
    ∀ m v, v + m = R.length → (∀ x, x < v → R.getD x 0 = 0) → verdictOf 0 (firstF R m v) = verdictOf 0 f := by
  have hz : ∀ x, x < R.length → R.getD x 0 = 0 → ∀ r, ¬ N x r := by
    intro x hx h0
    rcases hR x hx with ⟨-, h⟩ | ⟨h, -⟩
    · exact h
    · exact absurd h0 h
  intro m
  induction m with
  | zero =>
    intro v hv hall
    have hno : f.2 = 0 := by
      rcases hf with ⟨h0, -⟩ | ⟨w, hw, h0, hNw, -⟩
      · exact h0
      · exact absurd hNw (hz w (hN _ _ hNw) (hall w (by have := hN _ _ hNw; omega)) _)
    simp [verdictOf, firstF, hno]
  | succ m ih =>
    intro v hv hall
    rw [firstF]
    by_cases h : R.getD v 0 ≠ 0
    · rw [if_pos h]
      rcases hR v (by omega) with ⟨h1, -⟩ | ⟨h1, h2, h3⟩
      · exact absurd h1 h
      · rcases hf with ⟨-, hno⟩ | ⟨w, hw, h0, hNw, hle⟩
        · exact absurd h2 (hno _ _)
        · have e1 := hle _ _ h2
          have e2 : ¬ w < v := fun hlt => hz w (hN _ _ hNw) (hall w hlt) _ hNw
          obtain ⟨e3, e4⟩ : w = v ∧ f.2 ≤ R.getD v 0 := by
            rcases e1 with e1 | e1
            · exact absurd e1 e2
            · exact e1
          subst e3
          have e5 := h3 _ hNw
          have e6 : f.2 = R.getD w 0 := by omega
          have : f = ((w : Int), R.getD w 0) := Prod.ext hw e6
          rw [this]
    · rw [if_neg h]
      refine ih (v + 1) (by omega) fun x hx => ?_
      by_cases e : x = v
      · subst e; simpa using h
      · exact hall x (by omega)
theorem verdict_same {R : List Int} {N : Nat → Int → Prop} (hR : RulesIs R N) (hN : ∀ v r, N v r → v < R.length) {f : Int × Int} (hf : FoundIs f N) : verdictOf 0 (firstF R R.length 0) = verdictOf 0 f :=
  firstF_is hR hN hf R.length 0 (by omega) (fun x hx => absurd hx (Nat.not_lt_zero _))

/-! ### the walks -/
def rv (R : List Int) : Array Value := (R.map (Value.int .i64)).toArray
def RRow (W : World) (g : Nat) (R : List Int) : Prop := Row W g 3 (rv R)
theorem RRow.get {W : World} {g : Nat} {R : List Int} (h : RRow W g R) {v : Nat} (hv : v < R.length) : W.cell? ⟨g, v, none⟩ = some (.int .i64 (R.getD v 0)) := Row.get h (by
  simp [rv, List.getD_eq_getElem?_getD, hv])
theorem RRow.set {W : World} {g : Nat} {R : List Int} (h : RRow W g R) (v : Nat) (r : Int) : RRow (W.setCell ⟨g, v, none⟩ (.int .i64 r)) g (R.set v r) := by
  have := Row.set h v (.int .i64 r)
  unfold RRow
  rw [show rv (R.set v r) = (rv R).setIfInBounds v (.int .i64 r) by simp [rv, List.map_set]]
  exact this
def BeginAt (w : World) (n : Nat) (e : Ending) (w' : World) : Prop := ∃ g, e = .returned (.agg #[.slice (some ⟨g, 0, none⟩) n n]) ∧ w.heap.size ≤ g ∧ RRow w' g (List.replicate n 0) ∧ Below w.heap.size w w'
theorem begin (n : Nat) (hn : n ≤ 5000) (w : World) : Calls Try.prog 79 #[.int .u32 n] w (BeginAt w n) := by
  obtain ⟨i0, hi, hz0, hz1, hz2⟩ := info_parts infoI
  have hmk := fun W => make_one (P := Try.prog) W .u32 59 3 i0 (.int .i64 0) rfl Try.underlying59 hi hz0 hz1 n (by rw [hz2]; omega) (by omega)
  have RZ := Lib.hid (Row.at (Row.new (w.alloc (.cells #[.slice (some ⟨w.heap.size + 1, 0, none⟩) n n] 126)) 3 (List.replicate n (Value.int .i64 0)).toArray) (b' := w.heap.size + 1) (by simp))
  have BZ := Lib.hid (((Below.refl w.heap.size w).alloc (Nat.le_refl _) (.cells #[.slice (some ⟨w.heap.size + 1, 0, none⟩) n n] 126)).alloc (by simp) (.cells (List.replicate n (Value.int .i64 0)).toArray 3))
  go_enter Try.func79, Try.ntmps79
  go_wp2
  refine bodyPost_ret (v := .agg #[.slice (some ⟨w.heap.size + 1, 0, none⟩) n n]) (by simp [results, Try.f79, Try.results79, go_sem]) rfl ⟨w.heap.size + 1, rfl, by omega, ?_, ?_⟩
  · have := RZ.out
    simpa [RRow, rv] using this
  · have := BZ.out
    simpa using this
def NoteAt (g : Nat) (R : List Int) (w : World) (e : Ending) (w' : World) : Prop := e = .returned (.tuple #[]) ∧ RRow w' g R ∧ Turns (fun k => k = g) w w'
theorem note (g : Nat) (R : List Int) (v : Nat) (r : Int) (is : Bool) (hv : v < R.length) (w : World) (h : RRow w g R) :
    Calls Try.prog 80 #[.agg #[.slice (some ⟨g, 0, none⟩) R.length R.length], .int .i64 v, .int .i64 r, .bool is] w (NoteAt g (noteR R v r is) w) := by
  have HR := Lib.hid (Row.alloc h (.cells #[.slice (some ⟨g, 0, none⟩) R.length R.length] 126))
  have HT := Lib.hid ((Turns.refl (fun k => k = g) w).alloc (.cells #[.slice (some ⟨g, 0, none⟩) R.length R.length] 126))
  have hg := Row.lt h
  have c0 := h.get hv
  have f0 := Row.free h v
  have HR0 := Lib.hid h
  clear h
  unfold noteR
  cases is with
  | false =>
    rw [if_neg (by simp)]
    go_enter Try.func80, Try.ntmps80
    go_wp2
    go_end0
    exact ⟨rfl, HR.out, HT.out⟩
  | true =>
    obtain ⟨u, hu⟩ : ∃ u, R.getD v 0 = u := ⟨_, rfl⟩
    rw [hu] at c0 ⊢
    clear hu
    have HS := Lib.hid (Row.alloc (RRow.set HR0.out v r) (.cells #[.slice (some ⟨g, 0, none⟩) R.length R.length] 126))
    have HTS := Lib.hid (((Turns.refl (fun k => k = g) w).setCell (p := ⟨g, v, none⟩) rfl (.int .i64 r)).alloc (.cells #[.slice (some ⟨g, 0, none⟩) R.length R.length] 126))
    by_cases h1 : u = 0
    · rw [if_pos ⟨rfl, .inl h1⟩]
      subst h1
      go_enter Try.func80, Try.ntmps80
      go_wp2
      go_end0
      exact ⟨rfl, HS.out, HTS.out⟩
    · have d1 : (u == 0) = false := by simpa using h1
      by_cases h2 : r < u
      · rw [if_pos ⟨rfl, .inr h2⟩]
        have d2 : decide (r < u) = true := by simpa using h2
        clear h1 h2
        go_enter Try.func80, Try.ntmps80
        go_wp2
        go_end0
        exact ⟨rfl, HS.out, HTS.out⟩
      · rw [if_neg (by intro h; rcases h.2 with h | h; exact h1 h; exact h2 h)]
        have d2 : decide (r < u) = false := by simpa using h2
        clear h1 h2
        go_enter Try.func80, Try.ntmps80
        go_wp2
        go_end0
        exact ⟨rfl, HR.out, HT.out⟩

def RelV (R : List Int) (W : World) (i : Value) (wr : World) : Prop := ∃ k : Nat, k ≤ R.length ∧ i = .int .i64 k ∧ firstF R R.length 0 = firstF R (R.length - k) k ∧ wr = W
def VerAt (R : List Int) (w : World) (e : Ending) (w' : World) : Prop := e = .returned (verdictOf 0 (firstF R R.length 0)) ∧ Below w.heap.size w w'
theorem verdict (g : Nat) (R : List Int) (hn : R.length ≤ 5000) (w : World) (h : RRow w g R) :
    Calls Try.prog 81 #[.agg #[.slice (some ⟨g, 0, none⟩) R.length R.length]] w (VerAt R w) := by
  have HR := Lib.hid (Row.alloc (Row.alloc h (.cells #[.slice (some ⟨g, 0, none⟩) R.length R.length] 126)) (.cells #[.bool false, .int .u32 0, .int .i64 0] 79))
  have HB := Lib.hid (((Below.refl w.heap.size w).alloc (Nat.le_refl _) (.cells #[.slice (some ⟨g, 0, none⟩) R.length R.length] 126)).alloc (by simp) (.cells #[.bool false, .int .u32 0, .int .i64 0] 79))
  have hg := Row.lt h
  clear h
  go_enter Try.func81, Try.ntmps81
  go_wp2
  go_loopw [3] (fun i wr => RelV R ((w.alloc (.cells #[.slice (some ⟨g, 0, none⟩) R.length R.length] 126)).alloc (.cells #[.bool false, .int .u32 0, .int .i64 0] 79)) i wr) (fun i _ => R.length - (intOf i).toNat)
  case atStart => exact ⟨0, Nat.zero_le _, rfl, rfl, rfl⟩
  case round =>
    obtain ⟨k, hk, rfl, hsame, rfl⟩ := hrel
    rcases Nat.lt_or_ge k R.length with h6 | h6
    · have hkb : decide ((k : Int) < (R.length : Int)) = true := by simp; omega
      obtain ⟨u, hu⟩ : ∃ u, R.getD k 0 = u := ⟨_, rfl⟩
      have hc := RRow.get HR.out h6
      rw [hu] at hc
      have hf : firstF R (R.length - k) k = if u ≠ 0 then ((k : Int), u) else firstF R (R.length - (k + 1)) (k + 1) := by
        rw [show R.length - k = (R.length - (k + 1)) + 1 by omega, firstF, hu]
      rw [hf] at hsame
      by_cases h1 : u = 0
      · subst h1
        simp only [ne_eq, not_true_eq_false, if_false] at hsame
        have HS := Lib.hid hsame
        clear hsame hf hu
        go_wp2
        go_roundw
        case rel => exact ⟨k + 1, by omega, by go_num, HS.out, rfl⟩
        case measure => simp [intOf]; omega
      · rw [if_pos h1] at hsame
        have d1 : (u != 0) = true := by simpa using h1
        have hv : verdictOf 0 (firstF R R.length 0) = .agg #[.bool false, .int .u32 k, .int .i64 u] := by rw [hsame]; simp [verdictOf, h1]
        have HV := Lib.hid hv
        clear hsame hf hu h1 hv
        go_wp2
        refine bodyPost_ret (v := .agg #[.bool false, .int .u32 k, .int .i64 u]) (by simp [results, Try.f81, Try.results81, go_sem]) rfl ⟨by rw [HV.out], ?_⟩
        exact ((Below.refl _ _).alloc (Nat.le_refl _) _).alloc (by simp) _
    · obtain rfl : k = R.length := by omega
      have hkb : decide ((R.length : Int) < (R.length : Int)) = false := by simp
      have hv : verdictOf 0 (firstF R R.length 0) = .agg #[.bool true, .int .u32 0, .int .i64 0] := by rw [hsame, Nat.sub_self]; rfl
      have HV := Lib.hid hv
      clear hsame hv
      go_wp2
      refine bodyPost_ret (v := .agg #[.bool true, .int .u32 0, .int .i64 0]) (by simp [results, Try.f81, Try.results81, go_sem]) rfl ⟨by rw [HV.out], ?_⟩
      exact ((Below.refl _ _).alloc (Nat.le_refl _) _).alloc (by simp) _

/-! ### a word of every state against the truth -/
def wordN (l : List S8) (T : List Int) (i : Nat) (k : Nat) : Nat → Int → Prop := fun v r => v < k ∧ r = 1 ∧ (l.getD v zero8).at i ≠ T.getD v 0
theorem wordN_next (l : List S8) (T : List Int) (i k : Nat) : ∀ v r, more (wordN l T i k) k 1 ((l.getD k zero8).at i != T.getD k 0) v r ↔ wordN l T i (k + 1) v r := by
  intro v r
  unfold more wordN
  simp only [bne_iff_ne]
  constructor
  · rintro (⟨h1, h2, h3⟩ | ⟨h1, rfl, rfl⟩)
    · exact ⟨by omega, h2, h3⟩
    · exact ⟨by omega, rfl, h1⟩
  · rintro ⟨h1, h2, h3⟩
    by_cases e : v = k
    · subst e; exact .inr ⟨h3, rfl, h2⟩
    · exact .inl ⟨by omega, h2, h3⟩
def RelWo (w W : World) (g : Nat) (l : List S8) (T : List Int) (wi n : Nat) (i : Value) (wr : World) : Prop :=
  ∃ k : Nat, k ≤ n ∧ i = .int .i64 k ∧ (∃ R, RRow wr g R ∧ R.length = n ∧ RulesIs R (wordN l T wi k)) ∧ Turns (fun k => k = g) W wr
def WordsTell (l : List S8) (T : List Int) (wi n : Nat) (w : World) (e : Ending) (w' : World) : Prop := (∀ f, FoundIs f (wordN l T wi n) → e = .returned (verdictOf 0 f)) ∧ Below w.heap.size w w'
theorem verdict_agg (e : Int) (f : Int × Int) : ∃ r v q, verdictOf e f = .agg #[.bool r, .int .u32 v, .int .i64 q] := by
  unfold verdictOf
  split
  · exact ⟨_, _, _, rfl⟩
  · split <;> exact ⟨_, _, _, rfl⟩
theorem retw_ver {tmps : Array Value} {W : World} {V : Nat} {r : Bool} {v q : Int} (h8 : tmps[8]? = some (.pointer (some ⟨V, 0, none⟩))) (hR : Row W V 79 #[.bool r, .int .u32 v, .int .i64 q]) :
    (results Try.f43 tmps).run Try.prog W = .ok (.agg #[.bool r, .int .u32 v, .int .i64 q]) W := by
  have c0 := hR.get (i := 0) rfl
  have c1 := hR.get (i := 1) rfl
  have c2 := hR.get (i := 2) rfl
  simp only [List.getElem_toArray, List.getElem_cons_zero, List.getElem_cons_succ] at c0 c1 c2
  simp [results, Try.f43, Try.results43, go_sem, h8, c0, c1, c2]
set_option maxRecDepth 100000 in
set_option maxHeartbeats 2000000 in
theorem words (n wi gt cap tcap : Nat) (hwi : wi < 8) (hn : n ≤ 5000) (A : Option Addr) (l : List S8) (hl : l.length = n) (T : List Int) (hT : T.length = n) (w : World) (hA : Lay w w.heap.size A (svs l)) (hR : Row w gt 53 (T.map (Value.int .u64)).toArray) :
    Calls Try.prog 43 #[.int .u32 n, .slice A l.length cap, .int .i64 wi, .slice (some ⟨gt, 0, none⟩) n tcap] w (WordsTell l T wi n w) := by
  have HB := Lib.hid (fun W => begin n hn W)
  have HA := Lib.hid hA
  have HT := Lib.hid hR
  have hgt := hR.lt
  have R8 := Lib.hid (Row.new w 79 #[.bool false, .int .u32 0, .int .i64 0])
  have B8 := Lib.hid ((Below.refl w.heap.size w).alloc (Nat.le_refl _) (.cells #[.bool false, .int .u32 0, .int .i64 0] 79))
  clear hA hR
  go_enter Try.func43, Try.ntmps43
  go_wp2_with fail
  refine (HB.out _).mono ?_
  rintro e w1 ⟨g, rfl, hg, hr, hb⟩
  simp only [World.size_alloc] at hg
  have hg1 := Row.lt hr
  have hs1 : w.heap.size + 1 ≤ w1.heap.size := by have := hb.size; simpa using this
  have R1 := R8.out.below hb (by simp)
  have B1 := B8.out.trans (hb.mono (by simp))
  have RF := Row.new w1 126 #[.slice (some ⟨g, 0, none⟩) n n]
  have R1 := R1.alloc (.cells #[.slice (some ⟨g, 0, none⟩) n n] 126)
  have hr2 : RRow _ _ _ := Row.alloc hr (.cells #[.slice (some ⟨g, 0, none⟩) n n] 126)
  have B2 := B1.alloc (by omega) (.cells #[.slice (some ⟨g, 0, none⟩) n n] 126)
  obtain ⟨W2, hW2⟩ : ∃ W2, w1.alloc (.cells #[.slice (some ⟨g, 0, none⟩) n n] 126) = W2 := ⟨_, rfl⟩
  have S2 : W2.heap.size = w1.heap.size + 1 := by rw [← hW2]; simp
  rw [hW2] at RF R1 hr2 B2
  obtain ⟨FB, hFB⟩ : ∃ FB, w1.heap.size = FB := ⟨_, rfl⟩
  rw [hFB] at RF S2 hg1
  have RF := Lib.hid RF
  have R1 := Lib.hid R1
  have B2 := Lib.hid B2
  have hr2 := Lib.hid hr2
  clear hb hr B1 hs1
  go_wp2
  go_loopw [10] (fun i wr => RelWo w W2 g l T wi n i wr) (fun i _ => n - (intOf i).toNat)
  case atStart => exact ⟨0, Nat.zero_le _, rfl, ⟨_, hr2.out, by exact List.length_replicate, (rules_zero n).iff (fun v r => ⟨fun h => h.elim, fun h => absurd h.1 (Nat.not_lt_zero _)⟩)⟩, Turns.refl _ _⟩
  case round =>
    obtain ⟨k, hk, rfl, ⟨R, hR, hRl, hRu⟩, hT2⟩ := hrel
    have hszr := hT2.size
    have RFr := hT2.row RF.out (by show FB ≠ g; omega)
    have cF := RFr.get (i := 0) rfl
    simp only [List.getElem_toArray, List.getElem_cons_zero] at cF
    rcases Nat.lt_or_ge k n with h6 | h6
    · obtain ⟨x, hx⟩ : ∃ x, l[k]? = some x := ⟨_, List.getElem?_eq_getElem (by omega)⟩
      have hbl : Below w.heap.size w wr := B2.out.trans (hT2.below (by omega) (fun k h => by omega))
      obtain ⟨b, off, rfl, hB, hc⟩ := Lay.state (HA.out.below hbl) hx
      have c0 := hc wi hwi
      obtain ⟨t, ht⟩ : ∃ t, T[k]? = some t := ⟨_, List.getElem?_eq_getElem (by omega)⟩
      have ct : wr.cell? ⟨gt, k, none⟩ = some (.int .u64 t) := (HT.out.below hbl hgt).get (by simp [ht])
      have hkb : decide ((k : Int) < (n : Int)) = true := by simp; omega
      have hx' : l.getD k zero8 = x := by rw [List.getD_eq_getElem?_getD, hx]; rfl
      have ht' : T.getD k 0 = t := by rw [List.getD_eq_getElem?_getD, ht]; rfl
      have HN := Lib.hid (note g R k 1 (x.at wi != t) (by omega) wr.drew (Row.drew hR))
      have hbit : ((l.getD k zero8).at wi != T.getD k 0) = (x.at wi != t) := by rw [hx', ht']
      have HRu := Lib.hid (show RulesIs (noteR R k 1 (x.at wi != t)) (wordN l T wi (k + 1)) from (hRu.note k 1 (by decide) (x.at wi != t) (by omega)).iff (fun v r => hbit ▸ wordN_next l T wi k v r))
      have HTr := Lib.hid hT2
      rw [hRl] at HN
      clear hc hx hR hRu hT2 ht ht' hx' RFr hbit
      have hw8 : (wi : Int) < 8 := by omega
      go_wp2
      refine K.region_tail 13 (by kernel_rfl) (by kernel_rfl) ?_
      simp only [List.take_succ_cons, List.take_zero, List.drop_succ_cons, List.drop_zero]
      iterate 14 (first
        | (refine wpStill_step (fun KK hKK => ?_)
           first
             | (refine K.still_else ?_ (K.Puts.mk' _) ?_
                (first | rfl | (simp [Region.wanted, yielded]; done))
                refine hKK _ ?_)
             | (refine K.still_if ?_ ?_
                (first | rfl | (simp [Region.wanted, yielded]; done))
                apply K.still_val
                · go_simp; (try go_ints); exact K.Gives.mk' _ _
                · go_simp; exact K.Puts.mk' _
                refine hKK _ ?_)
           clear hKK KK)
        | skip)
      refine wpStill_nil ?_
      go_wp2_with fail
      refine HN.out.mono ?_
      rintro e w3 ⟨rfl, hR3, hT3⟩
      have HR3 := Lib.hid hR3
      have HT3 := Lib.hid (HTr.out.drew.trans hT3)
      clear hR3 hT3
      go_wp2
      go_roundw
      case rel => exact ⟨k + 1, by omega, by go_num, ⟨_, HR3.out, by rw [noteR_length]; exact hRl, HRu.out⟩, HT3.out⟩
      case measure => simp [intOf]; omega
    · obtain rfl : k = n := by omega
      have hkb : decide ((k : Int) < (k : Int)) = false := by simp
      have RVr := hT2.row R1.out (by show w.heap.size ≠ g; omega)
      have hbl : Below w.heap.size w wr := B2.out.trans (hT2.below (by omega) (fun k h => by omega))
      have HVd := Lib.hid (verdict g R (by omega) wr hR)
      obtain ⟨r, v, q, hag⟩ := verdict_agg 0 (firstF R R.length 0)
      have HS := Lib.hid (fun f hf => verdict_same hRu (fun v r h => by have := h.1; omega) (f := f) hf)
      have HAg := Lib.hid hag
      have HB2 := Lib.hid hbl
      have HRV := Lib.hid RVr
      rw [hRl] at HVd
      clear hR hRu hT2 hag hbl RVr RFr
      go_wp2_with fail
      refine HVd.out.mono ?_
      rintro e w4 ⟨rfl, hb4⟩
      rw [hRl] at HAg
      rw [hRl, HAg.out]
      have RV4 := HRV.out.below hb4 HRV.out.lt
      have hv0 := RV4.get (i := 0) rfl
      have hv1 := RV4.get (i := 1) rfl
      have hv2 := RV4.get (i := 2) rfl
      have hf0 := RV4.free 0
      have hf1 := RV4.free 1
      have hf2 := RV4.free 2
      simp only [List.getElem_toArray, List.getElem_cons_zero, List.getElem_cons_succ] at hv0 hv1 hv2
      have RZ := ((RV4.set 0 (.bool r)).set 1 (.int .u32 v)).set 2 (.int .i64 q)
      have BZ := (((HB2.out.trans (hb4.mono HB2.out.size)).setCell (p := ⟨w.heap.size, 0, none⟩) (Nat.le_refl _) (.bool r)).setCell (p := ⟨w.heap.size, 1, none⟩) (Nat.le_refl _) (.int .u32 v)).setCell (p := ⟨w.heap.size, 2, none⟩) (Nat.le_refl _) (.int .i64 q)
      have HZ := Lib.hid (And.intro RZ BZ)
      clear RZ BZ RV4 hb4
      go_wp2
      obtain ⟨RZ, BZ⟩ := HZ.out
      refine bodyPost_ret (retw_ver rfl RZ) rfl ⟨fun f hf => ?_, BZ⟩
      rw [← HS.out f hf, hRl, HAg.out]
end Go.Proofs.Ytepljdnhnnpdmaa.Faults
