/-
  Records laid out by their parts: the program's stage. No condition.
-/
import Derived.Test.YtepljdnhnnpdmaaPre
import Derived.Test.YtepljdnhnnpdmaaCut
import Derived.Test.YtepljdnhnnpdmaaRadix
set_option linter.unusedVariables false
set_option linter.unusedSimpArgs false
namespace Go.Proofs.Ytepljdnhnnpdmaa.Shuf
open Go.RowKit Go.Shelf Go.ChangeShapes Go.WideShapes Go.ChangeAt K Desk Cut Radix

/-! ### updates -/
structure U3 where
  t : Int
  a : Int
  b : Int
  tb : 0 ≤ t ∧ t ≤ 4294967295
  ab : 0 ≤ a ∧ a ≤ 18446744073709551615
  bb : 0 ≤ b ∧ b ≤ 18446744073709551615
instance : Inhabited U3 := ⟨⟨0, 0, 0, by decide, by decide, by decide⟩⟩
def uc (x : U3) : List Value := [.int .u32 x.t, .int .u64 x.a, .int .u64 x.b]
def ucs (l : List U3) : List Value := l.flatMap uc
def ua (x : U3) : Array Value := #[.int .u32 x.t, .int .u64 x.a, .int .u64 x.b]
theorem uc_length (x : U3) : (uc x).length = 3 := rfl
theorem ucs_length (l : List U3) : (ucs l).length = l.length * 3 := flat_length uc_length l
theorem ucs_append (l m : List U3) : ucs (l ++ m) = ucs l ++ ucs m := by simp [ucs]
theorem uc_of (cs : List Value) (h : Matches [.int .u32, .int .u64, .int .u64] cs) : ∃ x, cs = uc x := by
  obtain ⟨a, _, rfl, ha, h⟩ := matches_int (ks := [.int .u64, .int .u64]) h
  obtain ⟨b, _, rfl, hb, h⟩ := matches_int (ks := [.int .u64]) h
  obtain ⟨c, _, rfl, hc, h⟩ := matches_int (ks := []) h
  obtain rfl := matches_nil h
  exact ⟨⟨a, b, c, bounds_u32 ha, u64_of hb, u64_of hc⟩, rfl⟩
/-- An update of a list that lies at a block's head. -/
theorem Pre.upd {W : World} {g : Nat} {T : TypeId} {cap : Nat} {L : List U3} {rest : List Value} (h : Pre W g T cap (ucs L ++ rest)) {k : Nat} {x : U3} (hx : L[k]? = some x) :
    W.cell? ⟨g, k * 3, none⟩ = some (.int .u32 x.t) ∧ W.cell? ⟨g, k * 3 + 1, none⟩ = some (.int .u64 x.a) ∧ W.cell? ⟨g, k * 3 + 2, none⟩ = some (.int .u64 x.b) := by
  have hk := (List.getElem?_eq_some_iff.1 hx).1
  have key : ∀ f v, f < 3 → (uc x)[f]? = some v → W.cell? ⟨g, k * 3 + f, none⟩ = some v := fun f v hf hv => h.get (by
    rw [List.getElem?_append_left (by rw [ucs_length]; omega)]
    exact flat_get (f := f) uc_length hx hv)
  exact ⟨key 0 _ (by decide) rfl, key 1 _ (by decide) rfl, key 2 _ (by decide) rfl⟩
theorem ucs_set (T : List U3) (e : Nat) (x : U3) (he : e < T.length) : (((ucs T).set (e * 3) (.int .u32 x.t)).set (e * 3 + 1) (.int .u64 x.a)).set (e * 3 + 2) (.int .u64 x.b) = ucs (T.set e x) := by
  induction T generalizing e with
  | nil => simp at he
  | cons y t ih =>
    cases e with
    | zero => simp [ucs, uc]
    | succ e =>
      have h := ih e (by simpa using he)
      have e1 : (e + 1) * 3 = e * 3 + 1 + 1 + 1 := by omega
      rw [e1]
      show ((((uc y ++ ucs t).set _ _).set _ _).set _ _) = uc y ++ ucs (t.set e x)
      rw [← h]
      simp only [uc, List.cons_append, List.nil_append, List.set_cons_succ]
theorem Pre.upset {W : World} {g : Nat} {T : TypeId} {cap : Nat} {L : List U3} {rest : List Value} (h : Pre W g T cap (ucs L ++ rest)) {e : Nat} (x : U3) (he : e < L.length) :
    Pre (((W.setCell ⟨g, e * 3, none⟩ (.int .u32 x.t)).setCell ⟨g, e * 3 + 1, none⟩ (.int .u64 x.a)).setCell ⟨g, e * 3 + 2, none⟩ (.int .u64 x.b)) g T cap (ucs (L.set e x) ++ rest) := by
  have := ((h.set (i := e * 3) (.int .u32 x.t)).set (i := e * 3 + 1) (.int .u64 x.a)).set (i := e * 3 + 2) (.int .u64 x.b)
  have hl := ucs_length L
  rw [List.set_append_left _ _ (by omega), List.set_append_left _ _ (by simp; omega), List.set_append_left _ _ (by simp; omega), ucs_set L e x he] at this
  exact this

/-! ### one stage -/
def Z257 : Array Value := (List.replicate 257 (Value.int .i64 0)).toArray
def ic (l : List Nat) : Array Value := (l.map fun (x : Nat) => Value.int .i64 (x : Int)).toArray
theorem ic_get {W : World} {g : Nat} {T : TypeId} {l : List Nat} (h : Row W g T (ic l)) {i v : Nat} (hv : l[i]? = some v) : W.cell? ⟨g, i, none⟩ = some (.int .i64 v) := h.get (by simp [ic, hv])
theorem ic_set {W : World} {g : Nat} {T : TypeId} {l : List Nat} (h : Row W g T (ic l)) (i v : Nat) : Row (W.setCell ⟨g, i, none⟩ (.int .i64 v)) g T (ic (l.set i v)) := by
  have := h.set i (.int .i64 v)
  rwa [show (ic l).setIfInBounds i (.int .i64 v) = ic (l.set i v) by simp [ic, List.map_set]] at this
/-- The counts by digits, one place up. -/
def cnts (key : U3 → Nat) (L : List U3) : List Nat := (List.range 257).map fun i => if i = 0 then 0 else cnt key L (i - 1)
def sums (key : U3 → Nat) (L : List U3) (m : Nat) : List Nat := (List.range 257).map fun i => if i ≤ m then below key L i else cnt key L (i - 1)
def puts (key : U3 → Nat) (L : List U3) (fan j : Nat) : List Nat := (List.range 257).map fun i => if i < fan then below key L i + cnt key (L.take j) i else if i ≤ fan then below key L i else cnt key L (i - 1)
theorem cnts_get (key : U3 → Nat) (L : List U3) {d : Nat} (hd : d < 256) : (cnts key L)[d + 1]? = some (cnt key L d) := by simp [cnts, show d + 1 < 257 by omega]
theorem map_ext_set {f g : Nat → Nat} {n i v : Nat} (hi : i < n) (h1 : g i = v) (h2 : ∀ j, j ≠ i → g j = f j) : (List.range n).map g = ((List.range n).map f).set i v := by
  refine List.ext_getElem? fun j => ?_
  by_cases e : i = j
  · subst e; rw [List.getElem?_set_self (by simpa using hi)]; simp [hi, h1]
  · rw [List.getElem?_set_ne e]
    by_cases hj : j < n
    · simp [hj, h2 j (fun h => e h.symm)]
    · rw [List.getElem?_eq_none (by simp; omega), List.getElem?_eq_none (by simp; omega)]
theorem cnts_snoc (key : U3 → Nat) (L : List U3) (x : U3) (hx : key x < 256) : cnts key (L ++ [x]) = (cnts key L).set (key x + 1) (cnt key L (key x) + 1) := by
  refine map_ext_set (by omega) ?_ fun j hj => ?_
  · rw [if_neg (by omega), cnt_snoc, Nat.add_sub_cancel, if_pos rfl]
  · by_cases h0 : j = 0
    · rw [if_pos h0, if_pos h0]
    · rw [if_neg h0, if_neg h0, cnt_snoc, if_neg (by omega), Nat.add_zero]
theorem sums_zero (key : U3 → Nat) (L : List U3) : sums key L 0 = cnts key L := by
  unfold sums cnts
  refine List.map_congr_left fun i _ => ?_
  by_cases h : i = 0
  · subst h; rw [if_pos (Nat.le_refl _), if_pos rfl, below_zero]
  · rw [if_neg (by omega), if_neg h]
theorem sums_get (key : U3 → Nat) (L : List U3) {m : Nat} (hm : m < 257) : (sums key L m)[m]? = some (below key L m) ∧ (m + 1 < 257 → (sums key L m)[m + 1]? = some (cnt key L m)) := by
  constructor
  · simp [sums, hm]
  · intro h
    simp only [sums, List.getElem?_map, List.getElem?_range h, Option.map_some]
    rw [if_neg (by omega), Nat.add_sub_cancel]
theorem sums_succ (key : U3 → Nat) (L : List U3) {m : Nat} (hm : m + 1 < 257) : sums key L (m + 1) = (sums key L m).set (m + 1) (cnt key L m + below key L m) := by
  refine map_ext_set hm ?_ fun j hj => ?_
  · rw [if_pos (Nat.le_refl _), below_succ, Nat.add_comm]
  · by_cases h : j ≤ m
    · rw [if_pos (by omega), if_pos h]
    · rw [if_neg (by omega), if_neg h]
theorem puts_zero (key : U3 → Nat) (L : List U3) (fan : Nat) : puts key L fan 0 = sums key L fan := by
  unfold puts sums
  refine List.map_congr_left fun i _ => ?_
  by_cases h : i < fan
  · rw [if_pos h, if_pos (by omega)]; simp [cnt]
  · rw [if_neg h]
theorem puts_get (key : U3 → Nat) (L : List U3) {fan j d : Nat} (hd : d < fan) (hf : fan ≤ 256) : (puts key L fan j)[d]? = some (below key L d + cnt key (L.take j) d) := by simp [puts, show d < 257 by omega, hd]
theorem puts_succ (key : U3 → Nat) (L : List U3) {fan j : Nat} {x : U3} (hx : L[j]? = some x) (hd : key x < fan) (hf : fan ≤ 256) :
    puts key L fan (j + 1) = (puts key L fan j).set (key x) (below key L (key x) + cnt key (L.take j) (key x) + 1) := by
  obtain ⟨hj, rfl⟩ := List.getElem?_eq_some_iff.1 hx
  have htk : L.take (j + 1) = L.take j ++ [L[j]] := List.take_succ_eq_append_getElem hj
  refine map_ext_set (by omega) ?_ fun i hi => ?_
  · rw [if_pos hd, htk, cnt_snoc, if_pos rfl, Nat.add_assoc]
  · by_cases h : i < fan
    · rw [if_pos h, if_pos h, htk, cnt_snoc, if_neg (fun e => hi e.symm), Nat.add_zero]
    · rw [if_neg h, if_neg h]
theorem cnts_nil (key : U3 → Nat) : ic (cnts key []) = Z257 := by
  unfold ic Z257 cnts
  refine congrArg List.toArray ?_
  rw [List.map_map]
  refine List.ext_getElem? fun j => ?_
  by_cases hj : j < 257
  · simp only [List.getElem?_map, List.getElem?_range hj, List.getElem?_replicate, if_pos hj, Option.map_some, Function.comp]
    by_cases h : j = 0 <;> simp [h, cnt]
  · rw [List.getElem?_eq_none (by rw [List.length_map, List.length_range]; omega), List.getElem?_eq_none (by rw [List.length_replicate]; omega)]
end Go.Proofs.Ytepljdnhnnpdmaa.Shuf
