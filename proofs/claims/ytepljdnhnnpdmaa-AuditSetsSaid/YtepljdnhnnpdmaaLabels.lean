/-
  The audit of components: what the program answers. No condition.
-/
import Derived.Test.YtepljdnhnnpdmaaForest
import Derived.Test.YtepljdnhnnpdmaaOver2
import Derived.Deep.RegionHeld3
set_option linter.unusedVariables false
set_option linter.unusedSimpArgs false
namespace Go.Proofs.Ytepljdnhnnpdmaa.Labels
open Go.RowKit Go.Shelf K Feed Desk Forest

/-! ### the constructor -/
def madeCode (n : Int) : Int := if n < 1 ∨ 2147483647 < n then 2 else 0
theorem sized (n : Int) (w : World) : Calls Try.prog 109 #[.int .u32 n] w fun e w' => e = .returned (.bool (decide (madeCode n = 0))) ∧ w = w' := by
  unfold madeCode
  by_cases h1 : n < 1
  · rw [if_pos (.inl h1), show decide ((2 : Int) = 0) = false from rfl]
    have g1 : decide (1 ≤ n) = false := by simp; omega
    go_enter Try.func109, Try.ntmps109
    go_wp2
    go_ret
    exact ⟨rfl, rfl⟩
  have g1 : decide (1 ≤ n) = true := by simp; omega
  by_cases h2 : 2147483647 < n
  · rw [if_pos (.inr h2), show decide ((2 : Int) = 0) = false from rfl]
    have g2 : decide (n ≤ 2147483647) = false := by simp; omega
    go_enter Try.func109, Try.ntmps109
    go_wp2
    go_ret
    exact ⟨rfl, rfl⟩
  · rw [if_neg (by omega), show decide ((0 : Int) = 0) = true from rfl]
    have g2 : decide (n ≤ 2147483647) = true := by simp; omega
    go_enter Try.func109, Try.ntmps109
    go_wp2
    go_ret
    exact ⟨rfl, rfl⟩
theorem refSized (n : Int) (w : World) : Calls Try.prog 42 #[.int .u32 n] w fun e w' => e = .returned (.int .i64 (madeCode n)) ∧ w = w' := by
  unfold madeCode
  by_cases h1 : n < 1
  · rw [if_pos (.inl h1)]
    go_enter Try.func42, Try.ntmps42
    go_wp2
    go_ret
    exact ⟨rfl, rfl⟩
  by_cases h2 : 2147483647 < n
  · rw [if_pos (.inr h2)]
    go_enter Try.func42, Try.ntmps42
    go_wp2
    go_ret
    exact ⟨rfl, rfl⟩
  · rw [if_neg (by omega)]
    go_enter Try.func42, Try.ntmps42
    go_wp2
    go_ret
    exact ⟨rfl, rfl⟩
def MadeFlow (n : Int) (w : World) (e : Ending) (w' : World) : Prop := ∃ p, e = .returned (.tuple #[p, .int .i64 (madeCode n)]) ∧ Below w.heap.size w w'
theorem wcc (n : Int) (w : World) : Calls Try.prog 68 #[.int .u32 n] w (MadeFlow n w) := by
  have H := Lib.hid (fun W => sized n W)
  by_cases h : madeCode n = 0
  · rw [show decide (madeCode n = 0) = true by simp [h]] at H
    have HH := Lib.hid h
    clear h
    go_enter Try.func68, Try.ntmps68
    go_wp2_with fail
    refine (H.out _).mono ?_
    rintro e w1 ⟨rfl, rfl⟩
    go_wp2
    go_ret2
    exact ⟨_, by rw [HH.out]; rfl, (Below.refl _ _).alloc (Nat.le_refl _) _⟩
  · rw [show decide (madeCode n = 0) = false by simp [h]] at H
    have HH := Lib.hid (show madeCode n = 2 by unfold madeCode at h ⊢; split <;> simp_all)
    clear h
    go_enter Try.func68, Try.ntmps68
    go_wp2_with fail
    refine (H.out _).mono ?_
    rintro e w1 ⟨rfl, rfl⟩
    go_wp2
    go_ret2
    exact ⟨_, by rw [HH.out]; rfl, Below.refl _ _⟩
theorem made (p : Value) (e : Int) (w : World) : Calls Try.prog 67 #[p, .int .i64 e] w fun x w' => x = .returned (.int .i64 e) ∧ w = w' := by
  go_enter Try.func67, Try.ntmps67
  go_wp2
  go_ret
  exact ⟨rfl, rfl⟩

/-! ### its two closures -/
def foldP (l : List E3) : Nat → Nat := l.foldl (fun P x => joinP P x.s.toNat x.d.toNat) (fun v => v)
theorem foldP_snoc (l : List E3) (x : E3) : foldP (l ++ [x]) = joinP (foldP l) x.s.toNat x.d.toNat := by simp [foldP]
def SeenPost (P : Nat → Nat) (n g : Nat) (rest : List Value) (w : World) (e : Ending) (w' : World) : Prop := e = .returned (.tuple #[]) ∧ (∃ F, FRow w' g F rest ∧ Rep F P n) ∧ Turns (fun k => k = g) w w'
set_option maxRecDepth 100000 in
theorem seen (P : Nat → Nat) (n g cap Bf : Nat) (rest : List Value) (F : List Nat) (x : E3) (hs : x.s < n) (hd : x.d < n) (hn : n ≤ 4294967295) (hBf : Bf ≠ g) (w : World) (hR : FRow w g F rest) (hP : Rep F P n)
    (hB : Row w Bf 114 #[.slice (some ⟨g, 0, none⟩) n cap]) :
    Calls Try.prog 71 #[.agg #[.int .u32 x.s, .int .u32 x.d, .int .u32 x.x], .pointer (some ⟨Bf, 0, none⟩)] w (SeenPost (joinP P x.s.toNat x.d.toNat) n g rest w) := by
  obtain ⟨s, hs'⟩ : ∃ s : Nat, x.s = s := ⟨x.s.toNat, by have := x.sb; omega⟩
  obtain ⟨d, hd'⟩ : ∃ d : Nat, x.d = d := ⟨x.d.toNat, by have := x.db; omega⟩
  obtain ⟨z, hz'⟩ : ∃ z : Int, x.x = z := ⟨_, rfl⟩
  rw [hs', hd', hz', Int.toNat_natCast, Int.toNat_natCast]
  rw [hs'] at hs
  rw [hd'] at hd
  clear hs' hd' hz'
  have c0 := (hB.alloc (.cells #[.int .u32 (s : Int), .int .u32 (d : Int), .int .u32 z] 36)).get (i := 0) rfl
  have HJ := Lib.hid (join P n g cap rest F s d (by omega) (by omega) hn _ (Row.alloc hR (.cells #[.int .u32 (s : Int), .int .u32 (d : Int), .int .u32 z] 36)) hP)
  have HT := Lib.hid ((Turns.refl (fun k => k = g) w).alloc (.cells #[.int .u32 (s : Int), .int .u32 (d : Int), .int .u32 z] 36))
  have hs2 : s ≤ 4294967295 := by omega
  have hd2 : d ≤ 4294967295 := by omega
  clear hR hP hB hs hd
  go_enter Try.func71, Try.ntmps71
  go_wp2_with fail
  refine HJ.out.mono ?_
  rintro e w1 ⟨rfl, hF, ht⟩
  have HF := Lib.hid hF
  have HT1 := Lib.hid (HT.out.trans ht)
  clear hF ht
  go_wp2
  go_end0
  exact ⟨rfl, HF.out, HT1.out⟩
def LookPost (P : Nat → Nat) (n g D : Nat) (rest : List Value) (nn kind : Int) (ed sl : Value) (f : Int × Int) (w : World) (e : Ending) (w' : World) : Prop :=
  e = .returned (.tuple #[]) ∧ (∃ F, FRow w' g F rest ∧ Rep F P n) ∧ Row w' D 152 (deskRow nn kind ed sl false f.1 f.2) ∧ Turns (fun k => k = g ∨ k = D) w w'
set_option maxRecDepth 100000 in
set_option maxHeartbeats 2000000 in
theorem look (P : Nat → Nat) (n g cap Bf Bd D : Nat) (rest : List Value) (F : List Nat) (nn kind : Int) (ed sl : Value) (f : Int × Int) (v : Nat) (x : S8) (hv : v < n) (hn : n ≤ 4294967295) (hBf : Bf ≠ g) (hBd : Bd ≠ g) (hDg : D ≠ g) (hBfD : Bf ≠ D) (hBdD : Bd ≠ D) (w : World) (hR : FRow w g F rest) (hP : Rep F P n)
    (hB : Row w Bf 114 #[.slice (some ⟨g, 0, none⟩) n cap]) (hBB : Row w Bd 107 #[.pointer (some ⟨D, 0, none⟩)]) (hD : Row w D 152 (deskRow nn kind ed sl false f.1 f.2)) :
    Calls Try.prog 74 #[.int .u32 v, .agg (svArr x), .pointer (some ⟨Bd, 0, none⟩), .pointer (some ⟨Bf, 0, none⟩)] w (LookPost P n g D rest nn kind ed sl (noteD f v 1 (x.at 0 != ((P v : Nat) : Int))) w) := by
  have c0 := (hB.alloc (.cells (svArr x) 106)).get (i := 0) rfl
  have c1 := (hBB.alloc (.cells (svArr x) 106)).get (i := 0) rfl
  have c2 := (Row.new w 106 (svArr x)).get (i := 0) rfl
  have hR0 := hR
  have HX : Row (w.alloc (.cells (svArr x) 106)) w.heap.size 106 (svArr x) := Row.new _ _ _
  replace hR : FRow (w.alloc (.cells (svArr x) 106)) g F rest := Row.alloc hR _
  have hwg : w.heap.size ≠ g := fun e => by have := Row.lt hR0; omega
  clear hR0
  have hwD : w.heap.size ≠ D := fun e => by have := hD.lt; omega
  replace hD := hD.alloc (.cells (svArr x) 106)
  replace hB := hB.alloc (.cells (svArr x) 106)
  replace hBB := hBB.alloc (.cells (svArr x) 106)
  have hT := (Turns.refl (fun k => k = g ∨ k = D) w).alloc (.cells (svArr x) 106)
  unfold svArr at HX hR hD hB hBB hT c0 c1 c2 ⊢
  go_enter Try.func74, Try.ntmps74
  go_wp2_with fail
  obtain ⟨W0, hW0⟩ : ∃ W0, w.alloc (.cells #[.int .u64 (x.at 0), .int .u64 (x.at 1), .int .u64 (x.at 2), .int .u64 (x.at 3), .int .u64 (x.at 4), .int .u64 (x.at 5), .int .u64 (x.at 6), .int .u64 (x.at 7)] 106) = W0 := ⟨_, rfl⟩
  rw [hW0] at HX hR hD hB hBB hT c0 c1 c2 ⊢
  have hS0 : W0.cell? ⟨Bd, 0, none⟩ = some (.pointer (some ⟨D, 0, none⟩)) ∧ W0.cell? ⟨Bf, 0, none⟩ = some (.slice (some ⟨g, 0, none⟩) n cap) ∧ W0.cell? ⟨w.heap.size, 0, none⟩ = some (.int .u64 (x.at 0)) := ⟨c1, c0, c2⟩
  clear c0 c1 c2
  have HH := Lib.hid (And.intro HX (And.intro hR (And.intro hD (And.intro hB (And.intro hBB hT)))))
  clear HX hR hD hB hBB hT hW0
  have hwv : IntKind.u64.wrap (v : Int) = v := IntWalk.u64_in _ ⟨by omega, by omega⟩
  go_region_held3 (fun w' => w'.cell? ⟨Bd, 0, none⟩ = some (.pointer (some ⟨D, 0, none⟩)) ∧ w'.cell? ⟨Bf, 0, none⟩ = some (.slice (some ⟨g, 0, none⟩) n cap) ∧ w'.cell? ⟨w.heap.size, 0, none⟩ = some (.int .u64 (x.at 0)))
    (first
      | exact hS0
      | with_reducible exact hS1
      | with_reducible exact hS2)
    (first
      | (go_simp; go_at_call 76
         obtain ⟨hX, hR, hD, hB, hBB, hT⟩ := HH.out
         refine (root P n g cap rest F v hv hn _ (Row.drew hR) hP).mono ?_
         rintro e w1 ⟨rfl, hF, ht⟩
         have hD1 := ht.row (Row.drew hD) hDg
         have rB := ht.row (Row.drew hB) hBf
         have rBB := ht.row (Row.drew hBB) hBd
         have rX := ht.row (Row.drew hX) hwg
         have hS1 : w1.cell? ⟨Bd, 0, none⟩ = some (.pointer (some ⟨D, 0, none⟩)) ∧ w1.cell? ⟨Bf, 0, none⟩ = some (.slice (some ⟨g, 0, none⟩) n cap) ∧ w1.cell? ⟨w.heap.size, 0, none⟩ = some (.int .u64 (x.at 0)) := ⟨rBB.get (i := 0) rfl, rB.get (i := 0) rfl, rX.get (i := 0) rfl⟩)
      | (go_simp; go_at_call 75
         refine (broken D nn kind ed sl f v 1 _ w1 hD1).mono ?_
         rintro e w2 ⟨rfl, hD2, ht2⟩
         have hS2 : w2.cell? ⟨Bd, 0, none⟩ = some (.pointer (some ⟨D, 0, none⟩)) ∧ w2.cell? ⟨Bf, 0, none⟩ = some (.slice (some ⟨g, 0, none⟩) n cap) ∧ w2.cell? ⟨w.heap.size, 0, none⟩ = some (.int .u64 (x.at 0)) := ⟨(ht2.row rBB hBdD).get (i := 0) rfl, (ht2.row rB hBfD).get (i := 0) rfl, (ht2.row rX hwD).get (i := 0) rfl⟩))
  have HF := Lib.hid (show ∃ F, FRow w2 g F rest ∧ Rep F P n from let ⟨F, h1, h2⟩ := hF; ⟨F, Turns.row ht2 h1 (fun e => hDg e.symm), h2⟩)
  have HT2 := Lib.hid ((hT.drew.trans (ht.more (fun k h => .inl h))).trans (ht2.more (fun k h => .inr h)) : Turns (fun k => k = g ∨ k = D) w w2)
  have HD2 := Lib.hid hD2
  clear hF ht hD1 hD2 ht2
  go_wp2
  go_end0
  exact ⟨rfl, HF.out, HD2.out, HT2.out⟩
end Go.Proofs.Ytepljdnhnnpdmaa.Labels
