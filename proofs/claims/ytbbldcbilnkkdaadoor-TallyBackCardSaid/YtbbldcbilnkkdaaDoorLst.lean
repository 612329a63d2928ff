/-
  The laws' own lists: floats, finite. No condition.
-/
import Derived.Test.YtbbldcbilnkkdaaDoorAdd
import Derived.Test.YtbbldcbilnkkdaaDoorK4
import Derived.ChangeOld
import Derived.SizedLaws
set_option linter.unusedVariables false
set_option linter.unusedSimpArgs false
namespace Go.Proofs.YtbbldcbilnkkdaaDoor.Lst
open Go.ChangeShapes Go.WideShapes Go.ChangeAt Go.RowKit
open Num Tly Ref K

theorem infoF : (Tryd.prog.info? 39).map (fun i => (i.zero, i.size, i.bytes)) = some (some (.float .f32 0), 1, 4) := by kernel_rfl
def RelFloats (B : Nat) (w : World) (us : List Int) (n : Nat) (s i : Value) (wr : World) : Prop :=
  ∃ k : Nat, k ≤ n ∧ i = .int .i64 k ∧ wr.ownsRow B 39 1 s k ((us.take k).map Ref.fl) ∧ Below B w wr
set_option maxRecDepth 100000 in
theorem floats (A : Option Addr) (n cap : Nat) (us : List Int) (hn : n * 4 ≤ 140737488351232) (hu : ∀ u ∈ us, 0 ≤ u ∧ u < 4294967296) (w : World) (hA : Lies w w.heap.size A n (us.map (Value.int .u32))) :
    Calls Tryd.prog 27 #[.slice A n cap] w fun e w' => ∃ v, e = .returned v ∧ w'.ownsRow w.heap.size 39 1 v n (us.map Ref.fl) ∧ Below w.heap.size w w' := by
  obtain ⟨i0, hi, hz0, hz1, hz2⟩ := info_parts infoF
  have HL := Lib.hid hA
  have HU := Lib.hid (show us.length = n by simpa using hA.1)
  clear hA
  go_enter Tryd.func27, Tryd.ntmps27
  go_wp2
  go_loopw [3, 4] (fun s i wr => RelFloats w.heap.size w us n s i wr) (fun _ i _ => n - (intOf i).toNat)
  case atStart => exact ⟨0, Nat.zero_le _, rfl, World.ownsRow_nil _ _ _ _, Below.refl _ _⟩
  case round =>
    obtain ⟨k, hk, rfl, hown, hl⟩ := hrel
    rcases Nat.lt_or_ge k n with h6 | h6
    · obtain ⟨u, hu'⟩ : ∃ u, us[k]? = some u := ⟨_, List.getElem?_eq_getElem (by rw [HU.out]; exact h6)⟩
      obtain ⟨ad, rfl, hBB, hcell⟩ := (HL.out.below hl).at_ h6
      have hx := hcell _ (show (us.map (Value.int .u32))[k]? = some (.int .u32 u) by simp [hu'])
      have hkb : decide ((k : Int) < (n : Int)) = true := by simp; omega
      have HC := Lib.hid hu'
      clear hu' hcell
      go_wp2_with (first
        | (go_at_call 20; refine (grainFloat u _).mono ?_; rintro e w1 ⟨rfl, rfl⟩)
        | (at_builtin; refine wpList_append_own _ rfl _ _ 53 rfl w.heap.size 39 i0 (.float .f32 0) 1 4 Tryd.underlying53 hi hz0 hz1 hz2 rfl (by decide) _ _ _ rfl (hown.alloc _) ⟨wr.heap.size, 0, none⟩ 1 1 [.float .f32 u.toNat] rfl rfl ?c1 ?c2 ?c3 ?c4 ?c5 ?_))
      case c1 =>
        intro j u hj
        match j, hj with
        | 0, hj => simp at hj; subst hj; simp [Addr.add]
      case c2 => intro u hu; simp at hu; subst hu; rfl
      case c3 => unfold maxLen; omega
      case c4 => omega
      case c5 => have := hl.size; simp; omega
      intro v' w1 hown' hgrow _
      have ho : w1.ownsRow w.heap.size 39 1 v' (k + 1) ((us.take (k + 1)).map Ref.fl) := by
        obtain ⟨hk', e⟩ := List.getElem?_eq_some_iff.1 HC.out
        rw [List.take_succ_eq_append_getElem hk', List.map_append, e, List.map_take]
        exact hown'
      have hl' : Below w.heap.size w w1 := (hl.alloc hl.size _).grown hgrow (by have := hl.size; simp; omega) (fun g hg => (hown.lt g hg).1)
      clear hown' hgrow hown hl hx
      go_wp2
      go_roundw
      case rel => exact ⟨k + 1, by omega, by go_num, ho, hl'⟩
      case measure => simp [intOf]; omega
    · obtain rfl : k = n := by omega
      rw [List.take_of_length_le (by rw [HU.out]; exact Nat.le_refl _)] at hown
      have HO := Lib.hid hown
      clear hown
      go_wp2
      go_ret
      exact ⟨_, rfl, HO.out, hl⟩


theorem infoU : (Tryd.prog.info? 25).map (fun i => (i.zero, i.size, i.bytes)) = some (some (.int .u32 0), 1, 4) := by kernel_rfl
def u32s (us : List Int) : List Value := us.map (Value.int .u32)
def good (u : Int) : Bool := decide (u / 8388608 % 256 ≠ 255)
def RelFinite (B : Nat) (w : World) (us : List Int) (n : Nat) (s i : Value) (wr : World) : Prop :=
  ∃ k : Nat, k ≤ n ∧ i = .int .i64 k ∧ wr.ownsRow B 25 1 s ((us.take k).filter good).length (u32s ((us.take k).filter good)) ∧ Below B w wr
set_option maxRecDepth 100000 in
theorem finite (A : Option Addr) (n cap : Nat) (us : List Int) (hn : n * 4 ≤ 140737488351232) (hu : ∀ u ∈ us, 0 ≤ u ∧ u < 4294967296) (w : World) (hA : Lies w w.heap.size A n (us.map (Value.int .u32))) :
    Calls Tryd.prog 18 #[.slice A n cap] w fun e w' => ∃ v, e = .returned v ∧ w'.ownsRow w.heap.size 25 1 v (us.filter good).length (u32s (us.filter good)) ∧ Below w.heap.size w w' := by
  obtain ⟨i0, hi, hz0, hz1, hz2⟩ := info_parts infoU
  have HL := Lib.hid hA
  have HU := Lib.hid (show us.length = n by simpa using hA.1)
  clear hA
  go_enter Tryd.func18, Tryd.ntmps18
  go_wp2
  go_loopw [3, 4] (fun s i wr => RelFinite w.heap.size w us n s i wr) (fun _ i _ => n - (intOf i).toNat)
  case atStart => exact ⟨0, Nat.zero_le _, rfl, World.ownsRow_nil _ _ _ _, Below.refl _ _⟩
  case round =>
    obtain ⟨k, hk, rfl, hown, hl⟩ := hrel
    rcases Nat.lt_or_ge k n with h6 | h6
    · obtain ⟨u, hu'⟩ : ∃ u, us[k]? = some u := ⟨_, List.getElem?_eq_getElem (by rw [HU.out]; exact h6)⟩
      obtain ⟨ad, rfl, hBB, hcell⟩ := (HL.out.below hl).at_ h6
      have hx := hcell _ (show (us.map (Value.int .u32))[k]? = some (.int .u32 u) by simp [hu'])
      have hub := hu u (List.mem_of_getElem? hu')
      have hkb : decide ((k : Int) < (n : Int)) = true := by simp; omega
      have hfl : ((us.take k).filter good).length ≤ k := by
        have := List.length_filter_le good (us.take k)
        simp at this
        omega
      have hstep : (us.take (k + 1)).filter good = (us.take k).filter good ++ (if good u then [u] else []) := by
        obtain ⟨h', rfl⟩ := List.getElem?_eq_some_iff.1 hu'
        rw [List.take_succ_eq_append_getElem h', List.filter_append]
        congr 1
        cases hg : good us[k] <;> simp [hg]
      have HS := Lib.hid hstep
      have h66 := Lib.hid h6
      clear hu' hcell hstep h6
      by_cases hg : u / 8388608 % 256 = 255
      · have HG := Lib.hid (show good u = false by unfold good; simp [hg])
        have HO := Lib.hid hown
        have HLL := Lib.hid hl
        clear hown hl
        go_wp2
        go_roundw
        case rel => exact ⟨k + 1, by have := h66.out; omega, by go_num, by rw [HS.out, HG.out]; simpa using HO.out, HLL.out⟩
        case measure => simp [intOf]; have := h66.out; omega
      · have HG := Lib.hid (show good u = true by unfold good; simp [hg])
        have hgn : ((u / 8388608 % 256) != 255) = true := by simpa using hg
        clear hg
        generalize ((us.take k).filter good) = fs at *
        go_wp2_with (at_builtin; refine wpList_append_own _ rfl _ _ 36 rfl w.heap.size 25 i0 (.int .u32 0) 1 4 Tryd.underlying36 hi hz0 hz1 hz2 rfl (by decide) _ _ _ rfl (hown.alloc _) ⟨wr.heap.size, 0, none⟩ 1 1 [.int .u32 u] rfl rfl ?c1 ?c2 ?c3 ?c4 ?c5 ?_)
        case c1 =>
          intro j u hj
          match j, hj with
          | 0, hj => simp at hj; subst hj; simp [Addr.add]
        case c2 => intro u hu; simp at hu; subst hu; rfl
        case c3 => unfold maxLen; omega
        case c4 => omega
        case c5 => have := hl.size; simp; omega
        intro v' w1 hown' hgrow _
        have ho := Lib.hid (show w1.ownsRow w.heap.size 25 1 v' ((us.take (k + 1)).filter good).length (u32s ((us.take (k + 1)).filter good)) by
          rw [HS.out, HG.out]
          simp only [if_true, List.length_append, List.length_cons, List.length_nil, Nat.zero_add]
          rw [show u32s (fs ++ [u]) = u32s fs ++ [.int .u32 u] by simp [u32s]]
          exact hown')
        have hl' := Lib.hid (show Below w.heap.size w w1 from (hl.alloc hl.size _).grown hgrow (by have := hl.size; simp; omega) (fun g hg => (hown.lt g hg).1))
        clear hown' hgrow hown hl hx
        go_wp2
        go_roundw
        case rel => exact ⟨k + 1, by have := h66.out; omega, by go_num, ho.out, hl'.out⟩
        case measure => simp [intOf]; have := h66.out; omega
    · obtain rfl : k = n := by omega
      rw [List.take_of_length_le (by rw [HU.out]; exact Nat.le_refl _)] at hown
      have HO := Lib.hid hown
      clear hown
      go_wp2
      go_ret
      exact ⟨_, rfl, HO.out, hl⟩
end Go.Proofs.YtbbldcbilnkkdaaDoor.Lst
