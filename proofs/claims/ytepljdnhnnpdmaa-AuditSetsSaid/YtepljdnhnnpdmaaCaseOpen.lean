/-
  A Case that came in, taken apart. No condition.
-/
import Derived.Test.YtepljdnhnnpdmaaCase3
set_option linter.unusedVariables false
set_option linter.unusedSimpArgs false
namespace Go.Proofs.Ytepljdnhnnpdmaa.Case
open Go.RowKit Go.Shelf Go.ChangeShapes Go.WideShapes Go.ChangeAt K Feed Desk

theorem cells_case : Try.prog.cellsOf 74 = 14 := by kernel_rfl
theorem len14 {cs : List Value} (h : cs.length = 14) : ∃ a b c d e f g i j k l m n o, cs = [a, b, c, d, e, f, g, i, j, k, l, m, n, o] := by
  match cs, h with
  | [a, b, c, d, e, f, g, i, j, k, l, m, n, o], _ => exact ⟨a, b, c, d, e, f, g, i, j, k, l, m, n, o, rfl⟩
theorem open_states {H : Type} {enc : TypeId × Value → H} {w : World} {base : Nat} {held : Bool} {fuel : Nat} {cs : List Value} {x : DataW H × List MemPlace} (h : DataW.trod enc Try.prog w base (fun _ => true) held fuel 69 cs = some x) :
    ∃ (A : Option Addr) (l : List S8) (cap : Nat), cs = [.slice A l.length cap] ∧ (A = none → l.length = 0 ∧ cap = 0) ∧ l.length ≤ cap ∧ Lay w w.heap.size A (svs l) ∧ (x.1 = .nil ∧ cap = 0 ∨ ∃ xs ys, x.1 = .slice xs ys ∧ xs.length + ys.length = cap) :=
  open_list sv (f := 8) (ks := List.replicate 8 (.int .u64)) sv_length (by decide) sv_of Try.underlying69 (by kernel_rfl) rfl h
def sliceOr {H : Type} (d : DataW H) (cap : Nat) : Prop := d = .nil ∧ cap = 0 ∨ ∃ xs ys, d = .slice xs ys ∧ xs.length + ys.length = cap
theorem open_case {H : Type} {enc : TypeId × Value → H} {w : World} {base : Nat} {held : Bool} {fuel : Nat} {cs : List Value} {x : DataW H × List MemPlace} (h : DataW.trod enc Try.prog w base (fun _ => true) held fuel 74 cs = some x) :
    ∃ (n beh room src kind ra rb rc damp rounds seed : Int) (srcs : Value) (A B : Option Addr) (l : List S8) (es : List E3) (scap ecap : Nat) (parts : List (DataW H)) (d1 d2 : DataW H),
      cs = [.int .u32 n, .slice A l.length scap, .slice B es.length ecap, .int .i64 beh, .int .i64 room, .int .u32 src, srcs, .int .i64 kind, .int .u32 ra, .int .u32 rb, .int .u32 rc, .int .u32 damp, .int .i64 rounds, .int .u64 seed] ∧
      (0 ≤ n ∧ n ≤ 4294967295) ∧ (A = none → l.length = 0 ∧ scap = 0) ∧ l.length ≤ scap ∧ Lay w w.heap.size A (svs l) ∧ (B = none → es.length = 0 ∧ ecap = 0) ∧ es.length ≤ ecap ∧ Lay w w.heap.size B (evs es) ∧
      x.1 = .agg parts ∧ parts[1]? = some d1 ∧ parts[2]? = some d2 ∧ sliceOr d1 scap ∧ sliceOr d2 ecap := by
  have hu := Try.underlying74
  obtain ⟨xs, m, -, rfl, hl, hxl, hi⟩ := DataW.trod_struct hu h
  rw [cells_case] at hl
  obtain ⟨c0, c1, c2, c3, c4, c5, c6, c7, c8, c9, c10, c11, c12, c13, rfl⟩ := len14 hl
  have some_of : ∀ i, i < 12 → ∃ y, xs[i]? = some y := fun i hi => ⟨_, List.getElem?_eq_getElem (by rw [hxl]; exact hi)⟩
  obtain ⟨y0, e0⟩ := some_of 0 (by decide)
  have t0 : DataW.trod enc Try.prog w base (fun _ => true) held m 34 (([c0, c1, c2, c3, c4, c5, c6, c7, c8, c9, c10, c11, c12, c13].drop 0).take (Try.prog.cellsOf 34)) = xs[0]? := hi 0 _ rfl
  rw [show Try.prog.cellsOf 34 = 1 by kernel_rfl, e0] at t0
  change DataW.trod enc Try.prog w base (fun _ => true) held m 34 [c0] = some y0 at t0
  obtain ⟨y1, e1⟩ := some_of 1 (by decide)
  have t1 : DataW.trod enc Try.prog w base (fun _ => true) held m 69 (([c0, c1, c2, c3, c4, c5, c6, c7, c8, c9, c10, c11, c12, c13].drop 1).take (Try.prog.cellsOf 69)) = xs[1]? := hi 1 _ rfl
  rw [show Try.prog.cellsOf 69 = 1 by kernel_rfl, e1] at t1
  change DataW.trod enc Try.prog w base (fun _ => true) held m 69 [c1] = some y1 at t1
  obtain ⟨y2, e2⟩ := some_of 2 (by decide)
  have t2 : DataW.trod enc Try.prog w base (fun _ => true) held m 30 (([c0, c1, c2, c3, c4, c5, c6, c7, c8, c9, c10, c11, c12, c13].drop 2).take (Try.prog.cellsOf 30)) = xs[2]? := hi 2 _ rfl
  rw [show Try.prog.cellsOf 30 = 1 by kernel_rfl, e2] at t2
  change DataW.trod enc Try.prog w base (fun _ => true) held m 30 [c2] = some y2 at t2
  obtain ⟨y3, e3⟩ := some_of 3 (by decide)
  have t3 : DataW.trod enc Try.prog w base (fun _ => true) held m 3 (([c0, c1, c2, c3, c4, c5, c6, c7, c8, c9, c10, c11, c12, c13].drop 3).take (Try.prog.cellsOf 3)) = xs[3]? := hi 3 _ rfl
  rw [show Try.prog.cellsOf 3 = 1 by kernel_rfl, e3] at t3
  change DataW.trod enc Try.prog w base (fun _ => true) held m 3 [c3] = some y3 at t3
  obtain ⟨y4, e4⟩ := some_of 4 (by decide)
  have t4 : DataW.trod enc Try.prog w base (fun _ => true) held m 3 (([c0, c1, c2, c3, c4, c5, c6, c7, c8, c9, c10, c11, c12, c13].drop 4).take (Try.prog.cellsOf 3)) = xs[4]? := hi 4 _ rfl
  rw [show Try.prog.cellsOf 3 = 1 by kernel_rfl, e4] at t4
  change DataW.trod enc Try.prog w base (fun _ => true) held m 3 [c4] = some y4 at t4
  obtain ⟨y5, e5⟩ := some_of 5 (by decide)
  have t5 : DataW.trod enc Try.prog w base (fun _ => true) held m 34 (([c0, c1, c2, c3, c4, c5, c6, c7, c8, c9, c10, c11, c12, c13].drop 5).take (Try.prog.cellsOf 34)) = xs[5]? := hi 5 _ rfl
  rw [show Try.prog.cellsOf 34 = 1 by kernel_rfl, e5] at t5
  change DataW.trod enc Try.prog w base (fun _ => true) held m 34 [c5] = some y5 at t5
  obtain ⟨y7, e7⟩ := some_of 7 (by decide)
  have t7 : DataW.trod enc Try.prog w base (fun _ => true) held m 3 (([c0, c1, c2, c3, c4, c5, c6, c7, c8, c9, c10, c11, c12, c13].drop 7).take (Try.prog.cellsOf 3)) = xs[7]? := hi 7 _ rfl
  rw [show Try.prog.cellsOf 3 = 1 by kernel_rfl, e7] at t7
  change DataW.trod enc Try.prog w base (fun _ => true) held m 3 [c7] = some y7 at t7
  obtain ⟨y8, e8⟩ := some_of 8 (by decide)
  have t8 : DataW.trod enc Try.prog w base (fun _ => true) held m 72 (([c0, c1, c2, c3, c4, c5, c6, c7, c8, c9, c10, c11, c12, c13].drop 8).take (Try.prog.cellsOf 72)) = xs[8]? := hi 8 _ rfl
  rw [show Try.prog.cellsOf 72 = 3 by kernel_rfl, e8] at t8
  change DataW.trod enc Try.prog w base (fun _ => true) held m 72 [c8, c9, c10] = some y8 at t8
  obtain ⟨y9, e9⟩ := some_of 9 (by decide)
  have t9 : DataW.trod enc Try.prog w base (fun _ => true) held m 34 (([c0, c1, c2, c3, c4, c5, c6, c7, c8, c9, c10, c11, c12, c13].drop 11).take (Try.prog.cellsOf 34)) = xs[9]? := hi 9 _ rfl
  rw [show Try.prog.cellsOf 34 = 1 by kernel_rfl, e9] at t9
  change DataW.trod enc Try.prog w base (fun _ => true) held m 34 [c11] = some y9 at t9
  obtain ⟨y10, e10⟩ := some_of 10 (by decide)
  have t10 : DataW.trod enc Try.prog w base (fun _ => true) held m 3 (([c0, c1, c2, c3, c4, c5, c6, c7, c8, c9, c10, c11, c12, c13].drop 12).take (Try.prog.cellsOf 3)) = xs[10]? := hi 10 _ rfl
  rw [show Try.prog.cellsOf 3 = 1 by kernel_rfl, e10] at t10
  change DataW.trod enc Try.prog w base (fun _ => true) held m 3 [c12] = some y10 at t10
  obtain ⟨y11, e11⟩ := some_of 11 (by decide)
  have t11 : DataW.trod enc Try.prog w base (fun _ => true) held m 53 (([c0, c1, c2, c3, c4, c5, c6, c7, c8, c9, c10, c11, c12, c13].drop 13).take (Try.prog.cellsOf 53)) = xs[11]? := hi 11 _ rfl
  rw [show Try.prog.cellsOf 53 = 1 by kernel_rfl, e11] at t11
  change DataW.trod enc Try.prog w base (fun _ => true) held m 53 [c13] = some y11 at t11
  obtain ⟨z0, _, hz0, b0, q0⟩ := matches_int (ks := []) (flat_trod 8 (ks := [.int .u32]) (by kernel_rfl) t0).1
  obtain ⟨rfl, -⟩ := List.cons.inj hz0
  obtain ⟨A, l, scap, hA1, hA2, hA3, hA4, hA5⟩ := open_states t1
  obtain ⟨rfl, -⟩ := List.cons.inj hA1
  obtain ⟨B, es, ecap, hB1, hB2, hB3, hB4, hB5⟩ := K.open_edges t2
  obtain ⟨rfl, -⟩ := List.cons.inj hB1
  obtain ⟨z3, _, hz3, b3, q3⟩ := matches_int (ks := []) (flat_trod 8 (ks := [.int .i64]) (by kernel_rfl) t3).1
  obtain ⟨rfl, -⟩ := List.cons.inj hz3
  obtain ⟨z4, _, hz4, b4, q4⟩ := matches_int (ks := []) (flat_trod 8 (ks := [.int .i64]) (by kernel_rfl) t4).1
  obtain ⟨rfl, -⟩ := List.cons.inj hz4
  obtain ⟨z5, _, hz5, b5, q5⟩ := matches_int (ks := []) (flat_trod 8 (ks := [.int .u32]) (by kernel_rfl) t5).1
  obtain ⟨rfl, -⟩ := List.cons.inj hz5
  obtain ⟨z7, _, hz7, b7, q7⟩ := matches_int (ks := []) (flat_trod 8 (ks := [.int .i64]) (by kernel_rfl) t7).1
  obtain ⟨rfl, -⟩ := List.cons.inj hz7
  obtain ⟨za, _, hza, -, q8⟩ := matches_int (ks := [.int .u32, .int .u32]) (flat_trod 8 (ks := [.int .u32, .int .u32, .int .u32]) (by kernel_rfl) t8).1
  obtain ⟨rfl, rfl⟩ := List.cons.inj hza
  obtain ⟨zb, _, hzb, -, q8⟩ := matches_int (ks := [.int .u32]) q8
  obtain ⟨rfl, rfl⟩ := List.cons.inj hzb
  obtain ⟨zc, _, hzc, -, q8⟩ := matches_int (ks := []) q8
  obtain ⟨rfl, -⟩ := List.cons.inj hzc
  obtain ⟨z9, _, hz9, b9, q9⟩ := matches_int (ks := []) (flat_trod 8 (ks := [.int .u32]) (by kernel_rfl) t9).1
  obtain ⟨rfl, -⟩ := List.cons.inj hz9
  obtain ⟨z10, _, hz10, b10, q10⟩ := matches_int (ks := []) (flat_trod 8 (ks := [.int .i64]) (by kernel_rfl) t10).1
  obtain ⟨rfl, -⟩ := List.cons.inj hz10
  obtain ⟨z11, _, hz11, b11, q11⟩ := matches_int (ks := []) (flat_trod 8 (ks := [.int .u64]) (by kernel_rfl) t11).1
  obtain ⟨rfl, -⟩ := List.cons.inj hz11
  exact ⟨z0, z3, z4, z5, z7, za, zb, zc, z9, z10, z11, c6, A, B, l, es, scap, ecap, _, y1.1, y2.1, rfl, bounds_u32 b0, hA2, hA3, hA4, hB2, hB3, hB4, rfl, by simp [e1], by simp [e2], hA5, hB5⟩
theorem arr_of {cs : Array Value} {l : List Value} (h : cs.toList = l) : cs = l.toArray := by rw [← h]
/-- The sizes that the claim's reach allows. -/
theorem case_sizes {H : Type} {parts : List (DataW H)} {d1 d2 : DataW H} {scap ecap : Nat} (hsz : (DataW.weightsEach Try.prog [74] [.agg parts]).all (· ≤ reachBytes) = true)
    (h1 : parts[1]? = some d1) (h2 : parts[2]? = some d2) (hs : sliceOr d1 scap) (he : sliceOr d2 ecap) : scap * 64 ≤ 140737488351232 ∧ ecap * 12 ≤ 140737488351232 := by
  have hu := Try.underlying74
  have key : ∀ (i : Nat) (t e : TypeId) (d : DataW H) (cap b : Nat), (∀ fs, Try.prog.underlying 74 = some (.struct fs) → (fs.toList.map (·.type))[i]? = some t) → Try.prog.underlying t = some (.slice e) → Try.prog.bytesOf e = b → parts[i]? = some d → sliceOr d cap → cap * b ≤ 140737488351232 := by
    intro i t e d cap b hf ht hb hd hc
    rcases hc with ⟨rfl, rfl⟩ | ⟨xs, ys, rfl, rfl⟩
    · omega
    · have := List.all_eq_true.1 hsz ((xs.length + ys.length) * b) (DataW.weights_mem_each (j := 0) rfl rfl _ (by
        rw [DataW.weights]
        simp only [hu]
        exact DataW.weights_mem_each (hf _ hu) hd _ (by simp [DataW.weights, ht, hb])))
      simpa [reachBytes] using of_decide_eq_true this
  exact ⟨key 1 69 106 d1 scap 64 (fun fs h => by rw [hu] at h; cases h; rfl) Try.underlying69 (by kernel_rfl) h1 hs, key 2 30 36 d2 ecap 12 (fun fs h => by rw [hu] at h; cases h; rfl) Try.underlying30 (by kernel_rfl) h2 he⟩
end Go.Proofs.Ytepljdnhnnpdmaa.Case
