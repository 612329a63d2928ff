/-
  The helpers of the audits' laws: the list of states with marks behind it, the room, the verdicts held together, what is kept. No condition.
-/
import Derived.Test.YtepljdnhnnpdmaaDesk
set_option linter.unusedVariables false
set_option linter.unusedSimpArgs false
namespace Go.Proofs.Ytepljdnhnnpdmaa.Case
open Go.RowKit Go.Shelf K Feed Desk

theorem infoS : (Try.prog.info? 106).map (fun i => (i.zero, i.size, i.bytes)) = some (some (.agg #[.int .u64 0, .int .u64 0, .int .u64 0, .int .u64 0, .int .u64 0, .int .u64 0, .int .u64 0, .int .u64 0]), 8, 64) := by kernel_rfl
theorem own_at {w : World} {base : Nat} {e : TypeId} {v : Value} {n size : Nat} {xs : List Value} (h : w.ownsRow base e size v n xs) (hn : 0 < n) :
    ∃ g cap, v = .slice (some ⟨g, 0, none⟩) n cap ∧ base ≤ g ∧ n ≤ cap ∧ g < w.heap.size ∧ ∀ j u, xs[j]? = some u → w.cell? ⟨g, j, none⟩ = some u := by
  have h' := h
  obtain ⟨h1, ⟨_, h2⟩ | ⟨g, cap, cur, rfl, hg, hh, hc, hm, hs, ht⟩⟩ := h
  · omega
  · exact ⟨g, cap, rfl, hg, hc, (Array.getElem?_eq_some_iff.1 hh).1, fun j u hu => by have := h'.cells (g := g) rfl j u hu; rwa [Go.WideShapes.add_plain, Nat.zero_add] at this⟩
theorem sv_eq (x : S8) : sv x = [.int .u64 (x.at 0), .int .u64 (x.at 1), .int .u64 (x.at 2), .int .u64 (x.at 3), .int .u64 (x.at 4), .int .u64 (x.at 5), .int .u64 (x.at 6), .int .u64 (x.at 7)] := by
  unfold sv; rw [x.eq]; rfl
def m77 : S8 := ⟨[77, 77, 77, 0, 0, 0, 0, 0], rfl, by decide⟩
def m78 : S8 := ⟨[78, 78, 78, 0, 0, 0, 0, 0], rfl, by decide⟩
theorem svs_snoc (l : List S8) (x : S8) : svs (l ++ [x]) = svs l ++ sv x := by simp [svs]
def RelS (w : World) (l : List S8) (s i : Value) (wr : World) : Prop :=
  ∃ k : Nat, k ≤ l.length ∧ i = .int .i64 k ∧ wr.ownsRow w.heap.size 106 8 s k (svs (l.take k)) ∧ Below w.heap.size w wr
/-- Where a list with its two marks lies. -/
structure Kept (W : World) (g : Nat) (l : List S8) : Prop where
  lt : g < W.heap.size
  cells : ∀ j u, (svs (l ++ [m77, m78]))[j]? = some u → W.cell? ⟨g, j, none⟩ = some u
def StatesAt (w : World) (l : List S8) (e : Ending) (w' : World) : Prop := ∃ g cap, e = .returned (.slice (some ⟨g, 0, none⟩) l.length cap) ∧ w.heap.size ≤ g ∧ l.length + 2 ≤ cap ∧ Kept w' g l ∧ Below w.heap.size w w'
set_option maxRecDepth 100000 in
set_option maxHeartbeats 4000000 in
theorem states (A : Option Addr) (l : List S8) (cap : Nat) (hr : (l.length + 2) * 64 ≤ 140737488355328) (w : World) (hA : Lay w w.heap.size A (svs l)) :
    Calls Try.prog 37 #[.slice A l.length cap, .int .i64 l.length] w (StatesAt w l) := by
  obtain ⟨i0, hi, hz0, hz1, hz2⟩ := info_parts infoS
  have HL := Lib.hid hA
  clear hA
  go_enter Try.func37, Try.ntmps37
  go_wp2
  go_loopw [5, 6] (fun s i wr => RelS w l s i wr) (fun _ i _ => l.length - (intOf i).toNat)
  case atStart => exact ⟨0, Nat.zero_le _, rfl, World.ownsRow_nil _ _ _ _, Below.refl _ _⟩
  case round =>
    obtain ⟨k, hk, rfl, hown, hl⟩ := hrel
    rcases Nat.lt_or_ge k l.length with h6 | h6
    · obtain ⟨x, hx⟩ : ∃ x, l[k]? = some x := ⟨_, List.getElem?_eq_getElem h6⟩
      obtain ⟨b, off, rfl, hB, hc⟩ := Lay.state (HL.out.below hl) hx
      have hB' : b < wr.heap.size := Nat.lt_of_lt_of_le hB hl.size
      have c0 := hc 0 (by omega)
      have c1 := hc 1 (by omega)
      have c2 := hc 2 (by omega)
      have c3 := hc 3 (by omega)
      have c4 := hc 4 (by omega)
      have c5 := hc 5 (by omega)
      have c6 := hc 6 (by omega)
      have c7 := hc 7 (by omega)
      rw [Nat.add_zero] at c0
      have hkb : decide ((k : Int) < (l.length : Int)) = true := by simp; omega
      have HX := Lib.hid hx
      have HE := Lib.hid (sv_eq x)
      clear hc hx
      go_wp2_with (at_builtin; refine wpList_append_own _ rfl _ _ 69 rfl w.heap.size 106 i0 (.agg #[.int .u64 0, .int .u64 0, .int .u64 0, .int .u64 0, .int .u64 0, .int .u64 0, .int .u64 0, .int .u64 0]) 8 64 Try.underlying69 hi hz0 hz1 hz2 rfl (by decide) _ _ _ rfl ((hown.alloc _).alloc _) ⟨wr.heap.size + 1, 0, none⟩ 1 1 [.int .u64 (x.at 0), .int .u64 (x.at 1), .int .u64 (x.at 2), .int .u64 (x.at 3), .int .u64 (x.at 4), .int .u64 (x.at 5), .int .u64 (x.at 6), .int .u64 (x.at 7)] rfl ?c1 ?c2 ?c3 ?c4 ?c5 ?c6 ?_)
      case c1 => rfl
      case c2 =>
        intro j u hu
        have := (Row.at (Row.new (wr.alloc (.cells #[.int .u64 (x.at 0), .int .u64 (x.at 1), .int .u64 (x.at 2), .int .u64 (x.at 3), .int .u64 (x.at 4), .int .u64 (x.at 5), .int .u64 (x.at 6), .int .u64 (x.at 7)] 106)) 106 #[.int .u64 (x.at 0), .int .u64 (x.at 1), .int .u64 (x.at 2), .int .u64 (x.at 3), .int .u64 (x.at 4), .int .u64 (x.at 5), .int .u64 (x.at 6), .int .u64 (x.at 7)]) (b' := wr.heap.size + 1) (by simp)).get (i := j) (v := u) (by simpa using hu)
        rw [Go.WideShapes.add_plain, Nat.zero_add]
        exact this
      case c3 =>
        intro u hu
        simp only [List.mem_cons, List.not_mem_nil, or_false] at hu
        rcases hu with rfl | rfl | rfl | rfl | rfl | rfl | rfl | rfl <;> rfl
      case c4 => unfold maxLen; omega
      case c5 => omega
      case c6 => have := hl.size; simp; omega
      intro v' w1 hown' hgrow _
      have ho : w1.ownsRow w.heap.size 106 8 v' (k + 1) (svs (l.take (k + 1))) := by
        obtain ⟨hk', e⟩ := List.getElem?_eq_some_iff.1 HX.out
        rw [List.take_succ_eq_append_getElem hk', svs_snoc, e, HE.out]
        exact hown'
      have hl' : Below w.heap.size w w1 := ((hl.alloc hl.size _).alloc (by have := hl.size; simp; omega) _).grown hgrow (by have := hl.size; simp; omega) (fun g hg => (hown.lt g hg).1)
      clear hown' hgrow hown hl c0 c1 c2 c3 c4 c5 c6 c7
      go_wp2
      go_roundw
      case rel => exact ⟨k + 1, by omega, by go_num, ho, hl'⟩
      case measure => simp [intOf]; omega
    · obtain rfl : k = l.length := by omega
      have hkb : decide ((l.length : Int) < (l.length : Int)) = false := by simp
      rw [List.take_of_length_le (Nat.le_refl _)] at hown
      go_wp2_with (at_builtin; refine wpList_append_own _ rfl _ _ 69 rfl w.heap.size 106 i0 (.agg #[.int .u64 0, .int .u64 0, .int .u64 0, .int .u64 0, .int .u64 0, .int .u64 0, .int .u64 0, .int .u64 0]) 8 64 Try.underlying69 hi hz0 hz1 hz2 rfl (by decide) _ _ _ rfl (hown.alloc _) ⟨wr.heap.size, 0, none⟩ 2 2 [.int .u64 77, .int .u64 77, .int .u64 77, .int .u64 0, .int .u64 0, .int .u64 0, .int .u64 0, .int .u64 0, .int .u64 78, .int .u64 78, .int .u64 78, .int .u64 0, .int .u64 0, .int .u64 0, .int .u64 0, .int .u64 0] rfl ?c1 ?c2 ?c3 ?c4 ?c5 ?c6 ?_)
      case c1 => rfl
      case c2 =>
        intro j u hu
        have := (Row.new wr 106 #[.int .u64 77, .int .u64 77, .int .u64 77, .int .u64 0, .int .u64 0, .int .u64 0, .int .u64 0, .int .u64 0, .int .u64 78, .int .u64 78, .int .u64 78, .int .u64 0, .int .u64 0, .int .u64 0, .int .u64 0, .int .u64 0]).get (i := j) (v := u) (by simpa using hu)
        rw [Go.WideShapes.add_plain, Nat.zero_add]
        exact this
      case c3 =>
        intro u hu
        simp only [List.mem_cons, List.not_mem_nil, or_false] at hu
        rcases hu with rfl | rfl | rfl | rfl | rfl | rfl | rfl | rfl | rfl | rfl | rfl | rfl | rfl | rfl | rfl | rfl <;> rfl
      case c4 => unfold maxLen; omega
      case c5 => omega
      case c6 => have := hl.size; simp; omega
      intro v' w1 hown' hgrow _
      obtain ⟨g, cp, rfl, hg, hle, hgl, hcells⟩ := own_at hown' (by omega)
      have hl' : Below w.heap.size w w1 := (hl.alloc hl.size _).grown hgrow (by have := hl.size; simp; omega) (fun g hg => (hown.lt g hg).1)
      have HC := Lib.hid (show Kept w1 g l from ⟨hgl, fun j u hu => hcells j u (by simpa [svs, sv, m77, m78, List.append_assoc] using hu)⟩)
      clear hown' hgrow hown hcells hl
      have hlc : (l.length : Int) ≤ (cp : Int) := by omega
      go_wp2
      go_ret
      exact ⟨g, cp, rfl, hg, hle, HC.out, hl'⟩
end Go.Proofs.Ytepljdnhnnpdmaa.Case
