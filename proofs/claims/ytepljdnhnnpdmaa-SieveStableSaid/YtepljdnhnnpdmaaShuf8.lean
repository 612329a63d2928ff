/-
  The law of shuffles: its parts. No condition.
-/
import Derived.Test.YtepljdnhnnpdmaaShuf7
set_option linter.unusedVariables false
set_option linter.unusedSimpArgs false
namespace Go.Proofs.Ytepljdnhnnpdmaa.Shuf
open Go.RowKit Go.Shelf Go.ChangeShapes Go.WideShapes Go.ChangeAt K Desk Cut Radix

/-- An append to a slice that is full: a new block. -/
theorem append_full {P : Program} {w : World} {ops : Array Oper} {rest : List Oper} {o : Oper} {b : Act} {Q : Exit → Act → World → Prop} (hgd : o.guard = none) (s x : Operand) (t e : TypeId)
    (ho : o.op = .call { callee := .builtin .append, args := #[s, x], argTypes := #[t, t] }) (i : TypeInfo) (z : Value) (size bytes : Nat)
    (ht : P.underlying t = some (.slice e)) (hi : P.info? e = some i) (hz : i.zero = some z) (hsize : i.size = size) (hby : i.bytes = bytes)
    (A : Addr) (n : Nat) (olds : List Value) (hs : b.eval s = .slice (some A) n n) (hlo : olds.length = n * size) (holds : ∀ j u, olds[j]? = some u → w.cell? (A.add j) = some u)
    (ad : Addr) (m c : Nat) (news : List Value) (hx : b.eval x = .slice (some ad) m c) (hl : news.length = m * size) (hnews : ∀ j u, news[j]? = some u → w.cell? (ad.add j) = some u) (hm : 0 < m) (h63 : n + m ≤ maxLen) (hbytes : (n + m) * bytes ≤ 140737488355328)
    (h : ∀ v' w', v' = .slice (some ⟨w.heap.size, 0, none⟩) (n + m) (grownCap w (n + m) n e) → Below w.heap.size w w' → wpList P ops Q rest (b.put o.dst v') w') : wpList P ops Q (o :: rest) b w := by
  refine wpList_plain hgd fun K hK => ?_
  have hsm : n + m ≤ 9223372036854775807 := by simp only [maxLen] at h63; omega
  have hrun := run_append_grow (P := P) w t o.type e i z ht hi hz A n n olds (by rw [hsize]; exact hlo) holds ad m c news (by rw [hsize]; exact hl) hnews (by omega) (by omega) (by rw [hby]; exact growslice_fits (by omega) hbytes)
  unfold Oper.wp
  simp [execOp, ho, resolve, invoke, builtin, hs, hx, hrun, Result.andThen]
  exact hK _ _ (h _ _ rfl ((Below.refl _ w).drew.alloc (Nat.le_refl _) _))
theorem rs_nil (m : Nat) : rs [] m = List.replicate m u0 := by
  refine List.ext_getElem? fun j => ?_
  by_cases h : j < m
  · simp [rs, h]
  · rw [List.getElem?_eq_none (by rw [rs_length]; omega), List.getElem?_eq_none (by simp; omega)]
/-- A buffer, filled up to j. -/
def fill (bl j : Nat) : List U3 := List.replicate j u99 ++ List.replicate (bl - j) u0
theorem fill_length {bl j : Nat} (h : j ≤ bl) : (fill bl j).length = bl := by simp [fill]; omega
theorem fill_zero (bl : Nat) : fill bl 0 = List.replicate bl u0 := by simp [fill]
theorem fill_all (bl : Nat) : fill bl bl = List.replicate bl u99 := by simp [fill]
theorem fill_get {bl j : Nat} (h : j < bl) : (fill bl j)[j]? = some u0 := by
  unfold fill
  rw [List.getElem?_append_right (by simp), List.length_replicate, Nat.sub_self, List.getElem?_replicate, if_pos (by omega)]
theorem fill_succ {bl j : Nat} (h : j < bl) : fill bl (j + 1) = (fill bl j).set j u99 := by
  refine List.ext_getElem? fun i => ?_
  unfold fill
  by_cases e : j = i
  · subst e
    rw [List.getElem?_set_self (by simp; omega), List.getElem?_append_left (by simp), List.getElem?_replicate, if_pos (by omega)]
  · rw [List.getElem?_set_ne e]
    by_cases g : i < j
    · rw [List.getElem?_append_left (by simp; omega), List.getElem?_append_left (by simp; omega), List.getElem?_replicate, List.getElem?_replicate, if_pos (by omega), if_pos g]
    · rw [List.getElem?_append_right (by simp; omega), List.getElem?_append_right (by simp; omega), List.length_replicate, List.length_replicate, List.getElem?_replicate, List.getElem?_replicate]
      by_cases g2 : i < bl
      · rw [if_pos (by omega), if_pos (by omega)]
      · rw [if_neg (by omega), if_neg (by omega)]
theorem ucs_set0 (T : List U3) (e : Nat) (x y : U3) (hx : T[e]? = some x) (ha : y.a = x.a) (hb : y.b = x.b) : (ucs T).set (e * 3) (.int .u32 y.t) = ucs (T.set e y) := by
  have he := (List.getElem?_eq_some_iff.1 hx).1
  rw [← ucs_set T e y he]
  have h1 : ((ucs T).set (e * 3) (.int .u32 y.t)).set (e * 3 + 1) (.int .u64 y.a) = (ucs T).set (e * 3) (.int .u32 y.t) := by
    refine List.ext_getElem? fun i => ?_
    by_cases g : e * 3 + 1 = i
    · subst g
      rw [List.getElem?_set_self (by rw [List.length_set, ucs_length]; omega), List.getElem?_set_ne (by omega)]
      have := flat_get (f := 1) uc_length hx (v := .int .u64 x.a) rfl
      rw [show (ucs T)[e * 3 + 1]? = some (.int .u64 x.a) from this, ha]
    · rw [List.getElem?_set_ne g]
  have h2 : ((ucs T).set (e * 3) (.int .u32 y.t)).set (e * 3 + 2) (.int .u64 y.b) = (ucs T).set (e * 3) (.int .u32 y.t) := by
    refine List.ext_getElem? fun i => ?_
    by_cases g : e * 3 + 2 = i
    · subst g
      rw [List.getElem?_set_self (by rw [List.length_set, ucs_length]; omega), List.getElem?_set_ne (by omega)]
      have := flat_get (f := 2) uc_length hx (v := .int .u64 x.b) rfl
      rw [show (ucs T)[e * 3 + 2]? = some (.int .u64 x.b) from this, hb]
    · rw [List.getElem?_set_ne g]
  rw [h1, h2]
theorem Pre.fill {W : World} {g : Nat} {T : TypeId} {cap bl j : Nat} {rest : List Value} (h : Pre W g T cap (ucs (fill bl j) ++ rest)) (hj : j < bl) : Pre (W.setCell ⟨g, j * 3, none⟩ (.int .u32 99)) g T cap (ucs (Shuf.fill bl (j + 1)) ++ rest) := by
  have := h.set (i := j * 3) (.int .u32 99)
  rw [List.set_append_left _ _ (by rw [ucs_length, fill_length (by omega)]; omega), show (Value.int .u32 99) = .int .u32 u99.t from rfl, ucs_set0 _ j u0 u99 (fill_get hj) rfl rfl, ← fill_succ hj] at this
  exact this
/-- Of the parts: what the document's list of them is. -/
def psL (n q r : Int) (us : List U3) : List Int := us.map fun x => Cut.part n q r x.t
theorem psL_length (n q r : Int) (us : List U3) : (psL n q r us).length = us.length := by simp [psL]
theorem filter_map_range {β : Type} (f : Nat → β) (p : β → Bool) (l : List Nat) : (l.map f).filter p = (l.filter fun i => p (f i)).map f := by
  induction l with
  | nil => rfl
  | cons a t ih =>
    simp only [List.map_cons, List.filter_cons]
    by_cases h : p (f a) = true
    · rw [if_pos h, if_pos h, List.map_cons, ih]
    · rw [if_neg h, if_neg h, ih]
theorem list_range (us : List U3) : us = (List.range us.length).map fun i => us.getD i u0 := (rs_self us).symm
theorem key_of (n q r : Int) (us : List U3) {i : Nat} (hi : i < us.length) : keyI (psL n q r us) i = pn n q r (us.getD i u0) := by
  unfold keyI pn psL
  simp [List.getD_eq_getElem?_getD, hi]
theorem filter_key (n q r : Int) (us : List U3) (p : Nat → Bool) : (List.range us.length).filter (fun i => p (keyI (psL n q r us) i)) = (List.range us.length).filter (fun i => p (pn n q r (us.getD i u0))) :=
  List.filter_congr fun i hi => by rw [key_of n q r us (List.mem_range.1 hi)]
/-- The records laid out are those that the document's order names. -/
theorem bucket_order (n q r : Int) (us : List U3) (k : Nat) : bucket (pn n q r) k us = (ordL (psL n q r us) k).map fun i => us.getD i u0 := by
  induction k with
  | zero => rfl
  | succ k ih =>
    rw [bucket_succ, ordL_succ, List.map_append, ih]
    congr 1
    rw [psL_length, filter_key n q r us (fun v => v == k)]
    conv => lhs; rw [list_range us]
    rw [filter_map_range]
theorem starts_order (n q r : Int) (us : List U3) (k : Nat) : starts (pn n q r) us k = stsL (psL n q r us) k := by
  unfold starts stsL
  refine List.map_congr_left fun v _ => ?_
  unfold below
  rw [psL_length, filter_key n q r us (fun x => decide (x < v))]
  conv => lhs; rw [list_range us]
  rw [filter_map_range, List.length_map]
theorem bad_order (n q r : Int) (us : List U3) (k : Nat) : (∃ x ∈ us, ¬ okP n q r k x) ↔ ∃ x ∈ psL n q r us, badI k x := by
  unfold okP badI psL
  constructor
  · rintro ⟨x, hx, h⟩
    exact ⟨_, List.mem_map_of_mem hx, by omega⟩
  · rintro ⟨y, hy, h⟩
    obtain ⟨x, hx, rfl⟩ := List.mem_map.1 hy
    exact ⟨x, hx, by omega⟩
end Go.Proofs.Ytepljdnhnnpdmaa.Shuf
