/-
  The helpers of the audits' laws: what is kept, what is spared, the verdicts held together. No condition.
-/
import Derived.Test.YtepljdnhnnpdmaaCase2
import Derived.BigQuiet
set_option linter.unusedVariables false
set_option linter.unusedSimpArgs false
namespace Go.Proofs.Ytepljdnhnnpdmaa.Case
open Go.RowKit Go.Shelf K Feed Desk

def RelSp (w : World) (need R : Nat) (i : Value) (wr : World) : Prop := ∃ k : Nat, need ≤ k ∧ i = .int .i64 k ∧ Below w.heap.size w wr
theorem spare (g R need cap : Nat) (cs : List Value) (hcs : ∀ k, need ≤ k → k < R → cs[k]? = some (.int .u64 99)) (hneed : need ≤ 9223372036854775807) (hR : R ≤ 5000) (w : World) (hr : Row w g 53 cs.toArray) :
    Calls Try.prog 47 #[.slice (some ⟨g, 0, none⟩) R cap, .int .i64 need] w fun e w' => e = .returned (.bool true) ∧ Below w.heap.size w w' := by
  have HR := Lib.hid hr
  clear hr
  go_enter Try.func47, Try.ntmps47
  go_wp2
  go_loopw [5] (fun i wr => RelSp w need R i wr) (fun i _ => R - (intOf i).toNat)
  case atStart => exact ⟨need, Nat.le_refl _, rfl, Below.refl _ _⟩
  case round =>
    obtain ⟨k, hk, rfl, hl⟩ := hrel
    rcases Nat.lt_or_ge k R with h6 | h6
    · have hc : wr.cell? ⟨g, k, none⟩ = some (.int .u64 99) := (HR.out.below hl HR.out.lt).get (by simpa using hcs k hk h6)
      have hkb : decide ((k : Int) < (R : Int)) = true := by simp; omega
      have hg := HR.out.lt
      go_wp2
      go_roundw
      case rel => exact ⟨k + 1, by omega, by go_num, hl⟩
      case measure => simp [intOf]; omega
    · have hkb : decide ((k : Int) < (R : Int)) = false := by simp; omega
      go_wp2
      go_ret
      exact ⟨rfl, hl⟩
theorem eq_ver (r : Bool) (q v : Int) (W : World) : (binOp .eql 79 (.agg #[.bool r, .int .u32 q, .int .i64 v]) (.agg #[.bool r, .int .u32 q, .int .i64 v])).run Try.prog W = .ok (.bool true) W := by
  rw [run_eql_struct]
  have u := Try.underlying79
  have u1 := Try.underlying4
  have u2 := Try.underlying34
  have u3 := Try.underlying3
  simp [go_sem, u, u1, u2, u3]
theorem agree_ok (r : Bool) (q v : Int) (w : World) :
    Calls Try.prog 45 #[.agg #[.bool r, .int .u32 q, .int .i64 v], .int .i64 0, .agg #[.bool r, .int .u32 q, .int .i64 v], .int .i64 0] w fun e w' => e = .returned (.bool true) ∧ Below w.heap.size w w' := by
  have he := fun W => eq_ver r q v W
  go_enter Try.func45, Try.ntmps45
  go_wp2_with (refine (num _ _).mono ?_; rintro e w1 ⟨rfl, rfl⟩)
  go_ret
  exact ⟨rfl, ((Below.refl _ _).alloc (Nat.le_refl _) _).alloc (by simp) _⟩
theorem agree_no (c : Int) (hc : c ≠ 0) (w : World) :
    Calls Try.prog 45 #[.agg #[.bool false, .int .u32 0, .int .i64 0], .int .i64 c, .agg #[.bool false, .int .u32 0, .int .i64 0], .int .i64 c] w fun e w' => e = .returned (.bool true) ∧ Below w.heap.size w w' := by
  have he := fun W => eq_ver false 0 0 W
  have hb : (c != 0) = true := by simpa using hc
  clear hc
  go_enter Try.func45, Try.ntmps45
  go_wp2_with (refine (num _ _).mono ?_; rintro e w1 ⟨rfl, rfl⟩)
  go_ret
  exact ⟨rfl, ((Below.refl _ _).alloc (Nat.le_refl _) _).alloc (by simp) _⟩
theorem neq_state (x : S8) (W : World) : (binOp .neq 106 (.agg #[.int .u64 (x.at 0), .int .u64 (x.at 1), .int .u64 (x.at 2), .int .u64 (x.at 3), .int .u64 (x.at 4), .int .u64 (x.at 5), .int .u64 (x.at 6), .int .u64 (x.at 7)])
    (.agg #[.int .u64 (x.at 0), .int .u64 (x.at 1), .int .u64 (x.at 2), .int .u64 (x.at 3), .int .u64 (x.at 4), .int .u64 (x.at 5), .int .u64 (x.at 6), .int .u64 (x.at 7)])).run Try.prog W = .ok (.bool false) W := by
  have h := K.neq_ints (P := Try.prog) W (t := 106) (e := 53) (n := 8) (k := .u64) (by kernel_rfl) (by kernel_rfl) (by kernel_rfl) [x.at 0, x.at 1, x.at 2, x.at 3, x.at 4, x.at 5, x.at 6, x.at 7] [x.at 0, x.at 1, x.at 2, x.at 3, x.at 4, x.at 5, x.at 6, x.at 7] rfl rfl
  simpa using h
theorem eql_state (x : S8) (W : World) : (binOp .eql 106 (.agg #[.int .u64 (x.at 0), .int .u64 (x.at 1), .int .u64 (x.at 2), .int .u64 (x.at 3), .int .u64 (x.at 4), .int .u64 (x.at 5), .int .u64 (x.at 6), .int .u64 (x.at 7)])
    (.agg #[.int .u64 (x.at 0), .int .u64 (x.at 1), .int .u64 (x.at 2), .int .u64 (x.at 3), .int .u64 (x.at 4), .int .u64 (x.at 5), .int .u64 (x.at 6), .int .u64 (x.at 7)])).run Try.prog W = .ok (.bool true) W := by
  have h := K.eql_ints (P := Try.prog) W (t := 106) (e := 53) (n := 8) (k := .u64) (by kernel_rfl) (by kernel_rfl) (by kernel_rfl) [x.at 0, x.at 1, x.at 2, x.at 3, x.at 4, x.at 5, x.at 6, x.at 7] [x.at 0, x.at 1, x.at 2, x.at 3, x.at 4, x.at 5, x.at 6, x.at 7] rfl rfl
  simpa using h
theorem Kept.state {W : World} {g : Nat} {l : List S8} (h : Kept W g l) {k : Nat} {x : S8} (hx : (l ++ [m77, m78])[k]? = some x) : ∀ f, f < 8 → W.cell? ⟨g, k * 8 + f, none⟩ = some (.int .u64 (x.at f)) := fun f hf =>
  h.cells _ _ (flat_get (f := f) sv_length hx (v := .int .u64 (x.at f)) (by
    have : f < x.l.length := by rw [x.len]; exact hf
    simp [sv, S8.at, List.getD_eq_getElem?_getD, this]))
theorem Kept.below {W W' : World} {g : Nat} {l : List S8} (h : Kept W g l) {B : Nat} (hb : Below B W W') (hB : g < B) : Kept W' g l := ⟨Nat.lt_of_lt_of_le h.lt hb.size, fun j u hu => (hb.cell (p := ⟨g, j, none⟩) hB).trans (h.cells j u hu)⟩
def RelK (w : World) (n : Nat) (i : Value) (wr : World) : Prop := ∃ k : Nat, k ≤ n ∧ i = .int .i64 k ∧ Below w.heap.size w wr
set_option maxRecDepth 100000 in
set_option maxHeartbeats 4000000 in
theorem kept (g mcap cap : Nat) (A : Option Addr) (l : List S8) (hm : l.length + 2 ≤ mcap) (hr : (l.length + 2) * 64 ≤ 140737488355328) (w : World) (hK : Kept w g l) (hA : Lay w w.heap.size A (svs l)) :
    Calls Try.prog 46 #[.slice (some ⟨g, 0, none⟩) l.length mcap, .slice A l.length cap] w fun e w' => e = .returned (.bool true) ∧ Below w.heap.size w w' := by
  have HK := Lib.hid hK
  have HL := Lib.hid hA
  have hg := hK.lt
  clear hK hA
  go_enter Try.func46, Try.ntmps46
  go_wp2
  go_loopw [5] (fun i wr => RelK w l.length i wr) (fun i _ => l.length - (intOf i).toNat)
  case atStart => exact ⟨0, Nat.zero_le _, rfl, Below.refl _ _⟩
  case round =>
    obtain ⟨k, hk, rfl, hl⟩ := hrel
    have hg' : g < wr.heap.size := Nat.lt_of_lt_of_le hg hl.size
    rcases Nat.lt_or_ge k l.length with h6 | h6
    · obtain ⟨x, hx⟩ : ∃ x, l[k]? = some x := ⟨_, List.getElem?_eq_getElem h6⟩
      obtain ⟨b, off, rfl, hB, hc⟩ := Lay.state (HL.out.below hl) hx
      have hm := (HK.out.below hl hg).state (k := k) (x := x) (by rw [List.getElem?_append_left h6]; exact hx)
      have c0 := hc 0 (by omega)
      have c1 := hc 1 (by omega)
      have c2 := hc 2 (by omega)
      have c3 := hc 3 (by omega)
      have c4 := hc 4 (by omega)
      have c5 := hc 5 (by omega)
      have c6 := hc 6 (by omega)
      have c7 := hc 7 (by omega)
      have d0 := hm 0 (by omega)
      have d1 := hm 1 (by omega)
      have d2 := hm 2 (by omega)
      have d3 := hm 3 (by omega)
      have d4 := hm 4 (by omega)
      have d5 := hm 5 (by omega)
      have d6 := hm 6 (by omega)
      have d7 := hm 7 (by omega)
      rw [Nat.add_zero] at c0 d0
      have hkb : decide ((k : Int) < (l.length : Int)) = true := by simp; omega
      have hq := fun W => neq_state x W
      clear hc hm hx
      go_wp2_with fail
      go_quiet (fail)
      go_wp2
      go_roundw
      case rel => exact ⟨k + 1, by omega, by go_num, below_drewN hl nq⟩
      case measure => simp [intOf]; omega
    · obtain rfl : k = l.length := by omega
      have hkb : decide ((l.length : Int) < (l.length : Int)) = false := by simp
      have e0 := (HK.out.below hl hg).state (k := l.length) (x := m77) (by simp)
      have e1 := (HK.out.below hl hg).state (k := l.length + 1) (x := m78) (by simp)
      have c0 := e0 0 (by omega)
      have c1 := e0 1 (by omega)
      have c2 := e0 2 (by omega)
      have c3 := e0 3 (by omega)
      have c4 := e0 4 (by omega)
      have c5 := e0 5 (by omega)
      have c6 := e0 6 (by omega)
      have c7 := e0 7 (by omega)
      have d0 := e1 0 (by omega)
      have d1 := e1 1 (by omega)
      have d2 := e1 2 (by omega)
      have d3 := e1 3 (by omega)
      have d4 := e1 4 (by omega)
      have d5 := e1 5 (by omega)
      have d6 := e1 6 (by omega)
      have d7 := e1 7 (by omega)
      rw [Nat.add_zero] at c0 d0
      have hq7 := fun W => eql_state m77 W
      have hq8 := fun W => eql_state m78 W
      simp only [S8.at, m77, m78, List.getD_cons_zero, List.getD_cons_succ] at c0 c1 c2 c3 c4 c5 c6 c7 d0 d1 d2 d3 d4 d5 d6 d7 hq7 hq8
      clear e0 e1
      have hmc : (l.length : Int) + 2 ≤ (mcap : Int) := by omega
      go_wp2
      go_ret
      exact ⟨rfl, hl⟩
end Go.Proofs.Ytepljdnhnnpdmaa.Case
