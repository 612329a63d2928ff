/-
  A Case that came in, taken apart, its sources and its order too. No condition.
-/
import Derived.Test.YtepljdnhnnpdmaaCaseOpen
set_option linter.unusedVariables false
set_option linter.unusedSimpArgs false
namespace Go.Proofs.Ytepljdnhnnpdmaa.Case
open Go.RowKit Go.Shelf Go.ChangeShapes Go.WideShapes Go.ChangeAt K Feed Desk

structure U4 where
  x : Int
  ok : 0 ≤ x ∧ x ≤ 4294967295
instance : Inhabited U4 := ⟨⟨0, by decide⟩⟩
def uv (x : U4) : List Value := [.int .u32 x.x]
def uvs (l : List U4) : List Value := l.flatMap uv
theorem uv_length (x : U4) : (uv x).length = 1 := rfl
theorem uvs_length (l : List U4) : (uvs l).length = l.length := by have := flat_length uv_length l; simpa [uvs] using this
theorem uv_of (cs : List Value) (h : Matches [.int .u32] cs) : ∃ x, cs = uv x := by
  obtain ⟨a, _, rfl, ha, h⟩ := matches_int (ks := []) h
  obtain rfl := matches_nil h
  exact ⟨⟨a, bounds_u32 ha⟩, rfl⟩
theorem open_case2 {H : Type} {enc : TypeId × Value → H} {w : World} {base : Nat} {held : Bool} {fuel : Nat} {cs : List Value} {x : DataW H × List MemPlace} (h : DataW.trod enc Try.prog w base (fun _ => true) held fuel 74 cs = some x) :
    ∃ (n beh room src kind ra rb rc damp rounds seed : Int) (A B C : Option Addr) (l : List S8) (es : List E3) (ss : List U4) (scap ecap fcap : Nat) (parts : List (DataW H)) (d1 d2 d6 : DataW H),
      cs = [.int .u32 n, .slice A l.length scap, .slice B es.length ecap, .int .i64 beh, .int .i64 room, .int .u32 src, .slice C ss.length fcap, .int .i64 kind, .int .u32 ra, .int .u32 rb, .int .u32 rc, .int .u32 damp, .int .i64 rounds, .int .u64 seed] ∧
      (0 ≤ n ∧ n ≤ 4294967295) ∧ (0 ≤ src ∧ src ≤ 4294967295) ∧ (-9223372036854775808 ≤ kind ∧ kind ≤ 9223372036854775807) ∧ ((0 ≤ ra ∧ ra ≤ 4294967295) ∧ (0 ≤ rb ∧ rb ≤ 4294967295) ∧ (0 ≤ rc ∧ rc ≤ 4294967295)) ∧ (A = none → l.length = 0 ∧ scap = 0) ∧ l.length ≤ scap ∧ Lay w w.heap.size A (svs l) ∧ (B = none → es.length = 0 ∧ ecap = 0) ∧ es.length ≤ ecap ∧ Lay w w.heap.size B (evs es) ∧ (C = none → ss.length = 0 ∧ fcap = 0) ∧ ss.length ≤ fcap ∧ Lay w w.heap.size C (uvs ss) ∧
      x.1 = .agg parts ∧ parts[1]? = some d1 ∧ parts[2]? = some d2 ∧ parts[6]? = some d6 ∧ sliceOr d1 scap ∧ sliceOr d2 ecap ∧ sliceOr d6 fcap := by
  have hu := Try.underlying74
  obtain ⟨xs, m, -, rfl, hl, hxl, hi⟩ := DataW.trod_struct hu h
  rw [cells_case] at hl
  obtain ⟨c0, c1, c2, c3, c4, c5, c6, c7, c8, c9, c10, c11, c12, c13, rfl⟩ := len14 hl
  have some_of : ∀ i, i < 12 → ∃ y, xs[i]? = some y := fun i hi => ⟨_, List.getElem?_eq_getElem (by rw [hxl]; exact hi)⟩
  obtain ⟨y0, e0⟩ := some_of 0 (by decide)
  have t0 : DataW.trod enc Try.prog w base (fun _ => true) held m 34 (([c0, c1, c2, c3, c4, c5, c6, c7, c8, c9, c10, c11, c12, c13].drop 0).take (Try.prog.cellsOf 34)) = xs[0]? := hi 0 _ rfl
  rw [show Try.prog.cellsOf 34 = 1 by kernel_rfl, e0] at t0
  change DataW.trod enc Try.prog w base (fun _ => true) held m 34 [c0] = some y0 at t0
  obtain ⟨y1, e1⟩ := some_of 1 (by decide)
  have t1 : DataW.trod enc Try.prog w base (fun _ => true) held m 69 (([c0, c1, c2, c3, c4, c5, c6, c7, c8, c9, c10, c11, c12, c13].drop 1).take (Try.prog.cellsOf 69)) = xs[1]? := hi 1 _ rfl
  rw [show Try.prog.cellsOf 69 = 1 by kernel_rfl, e1] at t1
  change DataW.trod enc Try.prog w base (fun _ => true) held m 69 [c1] = some y1 at t1
  obtain ⟨y2, e2⟩ := some_of 2 (by decide)
  have t2 : DataW.trod enc Try.prog w base (fun _ => true) held m 30 (([c0, c1, c2, c3, c4, c5, c6, c7, c8, c9, c10, c11, c12, c13].drop 2).take (Try.prog.cellsOf 30)) = xs[2]? := hi 2 _ rfl
  rw [show Try.prog.cellsOf 30 = 1 by kernel_rfl, e2] at t2
  change DataW.trod enc Try.prog w base (fun _ => true) held m 30 [c2] = some y2 at t2
  obtain ⟨y3, e3⟩ := some_of 3 (by decide)
  have t3 : DataW.trod enc Try.prog w base (fun _ => true) held m 3 (([c0, c1, c2, c3, c4, c5, c6, c7, c8, c9, c10, c11, c12, c13].drop 3).take (Try.prog.cellsOf 3)) = xs[3]? := hi 3 _ rfl
  rw [show Try.prog.cellsOf 3 = 1 by kernel_rfl, e3] at t3
  change DataW.trod enc Try.prog w base (fun _ => true) held m 3 [c3] = some y3 at t3
  obtain ⟨y4, e4⟩ := some_of 4 (by decide)
  have t4 : DataW.trod enc Try.prog w base (fun _ => true) held m 3 (([c0, c1, c2, c3, c4, c5, c6, c7, c8, c9, c10, c11, c12, c13].drop 4).take (Try.prog.cellsOf 3)) = xs[4]? := hi 4 _ rfl
  rw [show Try.prog.cellsOf 3 = 1 by kernel_rfl, e4] at t4
  change DataW.trod enc Try.prog w base (fun _ => true) held m 3 [c4] = some y4 at t4
  obtain ⟨y5, e5⟩ := some_of 5 (by decide)
  have t5 : DataW.trod enc Try.prog w base (fun _ => true) held m 34 (([c0, c1, c2, c3, c4, c5, c6, c7, c8, c9, c10, c11, c12, c13].drop 5).take (Try.prog.cellsOf 34)) = xs[5]? := hi 5 _ rfl
  rw [show Try.prog.cellsOf 34 = 1 by kernel_rfl, e5] at t5
  change DataW.trod enc Try.prog w base (fun _ => true) held m 34 [c5] = some y5 at t5
  obtain ⟨y6, e6⟩ := some_of 6 (by decide)
  have t6 : DataW.trod enc Try.prog w base (fun _ => true) held m 70 (([c0, c1, c2, c3, c4, c5, c6, c7, c8, c9, c10, c11, c12, c13].drop 6).take (Try.prog.cellsOf 70)) = xs[6]? := hi 6 _ rfl
  rw [show Try.prog.cellsOf 70 = 1 by kernel_rfl, e6] at t6
  change DataW.trod enc Try.prog w base (fun _ => true) held m 70 [c6] = some y6 at t6
  obtain ⟨y7, e7⟩ := some_of 7 (by decide)
  have t7 : DataW.trod enc Try.prog w base (fun _ => true) held m 3 (([c0, c1, c2, c3, c4, c5, c6, c7, c8, c9, c10, c11, c12, c13].drop 7).take (Try.prog.cellsOf 3)) = xs[7]? := hi 7 _ rfl
  rw [show Try.prog.cellsOf 3 = 1 by kernel_rfl, e7] at t7
  change DataW.trod enc Try.prog w base (fun _ => true) held m 3 [c7] = some y7 at t7
  obtain ⟨y8, e8⟩ := some_of 8 (by decide)
  have t8 : DataW.trod enc Try.prog w base (fun _ => true) held m 72 (([c0, c1, c2, c3, c4, c5, c6, c7, c8, c9, c10, c11, c12, c13].drop 8).take (Try.prog.cellsOf 72)) = xs[8]? := hi 8 _ rfl
  rw [show Try.prog.cellsOf 72 = 3 by kernel_rfl, e8] at t8
  change DataW.trod enc Try.prog w base (fun _ => true) held m 72 [c8, c9, c10] = some y8 at t8
  obtain ⟨y9, e9⟩ := some_of 9 (by decide)
  have t9 : DataW.trod enc Try.prog w base (fun _ => true) held m 34 (([c0, c1, c2, c3, c4, c5, c6, c7, c8, c9, c10, c11, c12, c13].drop 11).take (Try.prog.cellsOf 34)) = xs[9]? := hi 9 _ rfl
  rw [show Try.prog.cellsOf 34 = 1 by kernel_rfl, e9] at t9
  change DataW.trod enc Try.prog w base (fun _ => true) held m 34 [c11] = some y9 at t9
  obtain ⟨y10, e10⟩ := some_of 10 (by decide)
  have t10 : DataW.trod enc Try.prog w base (fun _ => true) held m 3 (([c0, c1, c2, c3, c4, c5, c6, c7, c8, c9, c10, c11, c12, c13].drop 12).take (Try.prog.cellsOf 3)) = xs[10]? := hi 10 _ rfl
  rw [show Try.prog.cellsOf 3 = 1 by kernel_rfl, e10] at t10
  change DataW.trod enc Try.prog w base (fun _ => true) held m 3 [c12] = some y10 at t10
  obtain ⟨y11, e11⟩ := some_of 11 (by decide)
  have t11 : DataW.trod enc Try.prog w base (fun _ => true) held m 53 (([c0, c1, c2, c3, c4, c5, c6, c7, c8, c9, c10, c11, c12, c13].drop 13).take (Try.prog.cellsOf 53)) = xs[11]? := hi 11 _ rfl
  rw [show Try.prog.cellsOf 53 = 1 by kernel_rfl, e11] at t11
  change DataW.trod enc Try.prog w base (fun _ => true) held m 53 [c13] = some y11 at t11
  obtain ⟨z0, _, hz0, b0, q0⟩ := matches_int (ks := []) (flat_trod 8 (ks := [.int .u32]) (by kernel_rfl) t0).1
  obtain ⟨rfl, -⟩ := List.cons.inj hz0
  obtain ⟨A, l, scap, hA1, hA2, hA3, hA4, hA5⟩ := open_states t1
  obtain ⟨rfl, -⟩ := List.cons.inj hA1
  obtain ⟨B, es, ecap, hB1, hB2, hB3, hB4, hB5⟩ := K.open_edges t2
  obtain ⟨rfl, -⟩ := List.cons.inj hB1
  obtain ⟨z3, _, hz3, b3, q3⟩ := matches_int (ks := []) (flat_trod 8 (ks := [.int .i64]) (by kernel_rfl) t3).1
  obtain ⟨rfl, -⟩ := List.cons.inj hz3
  obtain ⟨z4, _, hz4, b4, q4⟩ := matches_int (ks := []) (flat_trod 8 (ks := [.int .i64]) (by kernel_rfl) t4).1
  obtain ⟨rfl, -⟩ := List.cons.inj hz4
  obtain ⟨z5, _, hz5, b5, q5⟩ := matches_int (ks := []) (flat_trod 8 (ks := [.int .u32]) (by kernel_rfl) t5).1
  obtain ⟨rfl, -⟩ := List.cons.inj hz5
  obtain ⟨C, ss, fcap, hC1, hC2, hC3, hC4, hC5⟩ := open_list uv (f := 8) (ks := [.int .u32]) uv_length (by decide) uv_of Try.underlying70 (by kernel_rfl) rfl t6
  obtain ⟨rfl, -⟩ := List.cons.inj hC1
  obtain ⟨z7, _, hz7, b7, q7⟩ := matches_int (ks := []) (flat_trod 8 (ks := [.int .i64]) (by kernel_rfl) t7).1
  obtain ⟨rfl, -⟩ := List.cons.inj hz7
  obtain ⟨za, _, hza, ba, q8⟩ := matches_int (ks := [.int .u32, .int .u32]) (flat_trod 8 (ks := [.int .u32, .int .u32, .int .u32]) (by kernel_rfl) t8).1
  obtain ⟨rfl, rfl⟩ := List.cons.inj hza
  obtain ⟨zb, _, hzb, bb, q8⟩ := matches_int (ks := [.int .u32]) q8
  obtain ⟨rfl, rfl⟩ := List.cons.inj hzb
  obtain ⟨zc, _, hzc, bc, q8⟩ := matches_int (ks := []) q8
  obtain ⟨rfl, -⟩ := List.cons.inj hzc
  obtain ⟨z9, _, hz9, b9, q9⟩ := matches_int (ks := []) (flat_trod 8 (ks := [.int .u32]) (by kernel_rfl) t9).1
  obtain ⟨rfl, -⟩ := List.cons.inj hz9
  obtain ⟨z10, _, hz10, b10, q10⟩ := matches_int (ks := []) (flat_trod 8 (ks := [.int .i64]) (by kernel_rfl) t10).1
  obtain ⟨rfl, -⟩ := List.cons.inj hz10
  obtain ⟨z11, _, hz11, b11, q11⟩ := matches_int (ks := []) (flat_trod 8 (ks := [.int .u64]) (by kernel_rfl) t11).1
  obtain ⟨rfl, -⟩ := List.cons.inj hz11
  exact ⟨z0, z3, z4, z5, z7, za, zb, zc, z9, z10, z11, A, B, C, l, es, ss, scap, ecap, fcap, _, y1.1, y2.1, y6.1, rfl, bounds_u32 b0, bounds_u32 b5, bounds_i64 b7, ⟨bounds_u32 ba, bounds_u32 bb, bounds_u32 bc⟩, hA2, hA3, hA4, hB2, hB3, hB4, hC2, hC3, hC4, rfl, by simp [e1], by simp [e2], by simp [e6], hA5, hB5, hC5⟩
end Go.Proofs.Ytepljdnhnnpdmaa.Case
