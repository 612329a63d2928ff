/-
  MillClasses: the class of every number is what the document's table says. No condition.
-/
import Derived.Test.YthdglihjnpednaaPMillClassesx2
namespace Go.Proofs.Ythdglihjnpednaa.Pure
open Go.RowKit Go.Proofs.Ythdglihjnpednaa.PMillClasses Go.Proofs.YthdglihjnpednaaW.PrintWords Go.Proofs.YthdglihjnpednaaW.PrintLast

theorem round (a : Int) : sluicelaw19_MillClasses.f 300 a = (mill_Class.f 89 a).bind (fun t => (sluiceref19_Class.f 89 a).bind fun u => some (t == u)) := by
  kernel_rfl

theorem high1 (a : Int) (h : a < 0 ∨ 210 ≤ a) : mill_Class.f 89 a = some 1 := by
  have n : ∀ c : Int, 0 ≤ c → c < 210 → (a = c) = False := fun c h1 h2 => by simp; omega
  have e : ∀ c : Int, 0 ≤ c → c < 210 → (a == c) = false := fun c h1 h2 => by simp; omega
  have g1 : ¬ (a ≥ 80 ∧ a ≤ 87) := by omega
  have g2 : ¬ (a ≥ 111 ∧ a ≤ 114) := by omega
  unfold mill_Class.f mill_Class.j0 mill_Class.j1 mill_Class.j2 mill_Class.j3 mill_Class.j4 mill_Class.j5
  simp only [n, e, Int.reduceLE, Int.reduceLT, if_false, Bool.false_eq_true]
  rcases h with h | h
  · simp [show ¬ (a ≥ 80) by omega, show ¬ (a ≥ 111) by omega]
  · simp [show (a ≥ 80) by omega, show ¬ (a ≤ 87) by omega, show ¬ (a ≤ 114) by omega]

theorem high2 (a : Int) (h : a < 0 ∨ 210 ≤ a) : sluiceref19_Class.f 89 a = some 1 := by
  have n : ∀ c : Int, 0 ≤ c → c < 210 → (a = c) = False := fun c h1 h2 => by simp; omega
  have e : ∀ c : Int, 0 ≤ c → c < 210 → (a == c) = false := fun c h1 h2 => by simp; omega
  have m : ∀ c : Int, 0 ≤ c → c < 210 → (c = a) = False := fun c h1 h2 => by simp; omega
  have i1 : sluiceref19_in.f 89 [41, 42, 94, 67] a = some false := by
    simp [sluiceref19_in.f, sluiceref19_in.l0, rd, wrap64, m]
  have i2 : sluiceref19_in.f 89 [33, 32] a = some false := by
    simp [sluiceref19_in.f, sluiceref19_in.l0, rd, wrap64, m]
  have i3 : sluiceref19_in.f 89 [35, 34, 51, 53, 52] a = some false := by
    simp [sluiceref19_in.f, sluiceref19_in.l0, rd, wrap64, m]
  have i4 : sluiceref19_in.f 89 [60, 61, 62, 63, 64, 65, 66, 78, 31] a = some false := by
    simp [sluiceref19_in.f, sluiceref19_in.l0, rd, wrap64, m]
  unfold sluiceref19_Class.f sluiceref19_Class.j0
  simp only [i1, i2, i3, i4, n, e, Int.reduceLE, Int.reduceLT, if_false, Bool.false_eq_true, Option.bind_some]
  rcases h with h | h
  · simp [show ¬ (a ≥ 80) by omega, show ¬ (a ≥ 111) by omega]
  · simp [show (a ≥ 80) by omega, show ¬ (a ≤ 87) by omega, show ¬ (a ≤ 114) by omega]

theorem low' : ∀ n : Nat, n < 210 → (mill_Class.f 89 (n : Int)).bind (fun t => (sluiceref19_Class.f 89 (n : Int)).bind fun u => some (t == u)) = some true := by
  decide +kernel

theorem MillClasses : sluicelaw19_MillClasses.Pure := by
  intro a _
  refine ⟨300, ?_⟩
  rw [round]
  by_cases h : a < 0 ∨ 210 ≤ a
  · rw [high1 a h, high2 a h]; rfl
  · obtain ⟨n, rfl⟩ := Int.eq_ofNat_of_zero_le (show 0 ≤ a by omega)
    exact low' n (by omega)

end Go.Proofs.Ythdglihjnpednaa.Pure
