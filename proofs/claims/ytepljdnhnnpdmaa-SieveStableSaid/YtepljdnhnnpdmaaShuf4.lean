/-
  The program's shuffle, walked. No condition.
-/
import Derived.Test.YtepljdnhnnpdmaaShuf3
import Derived.WalkMore
import Derived.Test.YtepljdnhnnpdmaaCase2
set_option linter.unusedVariables false
set_option linter.unusedSimpArgs false
namespace Go.Proofs.Ytepljdnhnnpdmaa.Shuf
open Go.RowKit Go.Shelf Go.ChangeShapes Go.WideShapes Go.ChangeAt K Desk Cut Radix

def cntsN (N : Nat) (key : U3 → Nat) (L : List U3) : List Nat := (List.range N).map fun i => if i = 0 then 0 else cnt key L (i - 1)
def sumsN (N : Nat) (key : U3 → Nat) (L : List U3) (m : Nat) : List Nat := (List.range N).map fun i => if i ≤ m then below key L i else cnt key L (i - 1)
theorem cntsN_nil (N : Nat) (key : U3 → Nat) : ic (cntsN N key []) = (List.replicate N (Value.int .i64 0)).toArray := by
  unfold ic cntsN
  refine congrArg List.toArray ?_
  rw [List.map_map]
  refine List.ext_getElem? fun j => ?_
  by_cases hj : j < N
  · simp only [List.getElem?_map, List.getElem?_range hj, List.getElem?_replicate, if_pos hj, Option.map_some, Function.comp]
    by_cases h : j = 0 <;> simp [h, cnt]
  · rw [List.getElem?_eq_none (by rw [List.length_map, List.length_range]; omega), List.getElem?_eq_none (by rw [List.length_replicate]; omega)]
theorem cntsN_get {N : Nat} (key : U3 → Nat) (L : List U3) {d : Nat} (hd : d + 1 < N) : (cntsN N key L)[d + 1]? = some (cnt key L d) := by simp [cntsN, hd]
theorem cntsN_snoc {N : Nat} (key : U3 → Nat) (L : List U3) (x : U3) (hx : key x + 1 < N) : cntsN N key (L ++ [x]) = (cntsN N key L).set (key x + 1) (cnt key L (key x) + 1) := by
  refine map_ext_set (by omega) ?_ fun j hj => ?_
  · rw [if_neg (by omega), cnt_snoc, Nat.add_sub_cancel, if_pos rfl]
  · by_cases h0 : j = 0
    · rw [if_pos h0, if_pos h0]
    · rw [if_neg h0, if_neg h0, cnt_snoc, if_neg (by omega), Nat.add_zero]
theorem sumsN_zero (N : Nat) (key : U3 → Nat) (L : List U3) : sumsN N key L 0 = cntsN N key L := by
  unfold sumsN cntsN
  refine List.map_congr_left fun i _ => ?_
  by_cases h : i = 0
  · subst h; rw [if_pos (Nat.le_refl _), if_pos rfl, below_zero]
  · rw [if_neg (by omega), if_neg h]
theorem sumsN_get {N : Nat} (key : U3 → Nat) (L : List U3) {m : Nat} (hm : m + 1 < N) : (sumsN N key L m)[m]? = some (below key L m) ∧ (sumsN N key L m)[m + 1]? = some (cnt key L m) := by
  constructor
  · simp [sumsN, show m < N by omega]
  · simp only [sumsN, List.getElem?_map, List.getElem?_range hm, Option.map_some]
    rw [if_neg (by omega), Nat.add_sub_cancel]
theorem sumsN_succ {N : Nat} (key : U3 → Nat) (L : List U3) {m : Nat} (hm : m + 1 < N) : sumsN N key L (m + 1) = (sumsN N key L m).set (m + 1) (cnt key L m + below key L m) := by
  refine map_ext_set hm ?_ fun j hj => ?_
  · rw [if_pos (Nat.le_refl _), below_succ, Nat.add_comm]
  · by_cases h : j ≤ m
    · rw [if_pos (by omega), if_pos h]
    · rw [if_neg (by omega), if_neg h]
/-- Where each part starts. -/
def starts (key : U3 → Nat) (L : List U3) (k : Nat) : List Nat := (List.range (k + 1)).map (below key L)
theorem sumsN_all (key : U3 → Nat) (L : List U3) (k : Nat) : sumsN (k + 1) key L k = starts key L k := by
  unfold sumsN starts
  refine List.map_congr_left fun i hi => ?_
  rw [if_pos (by have := List.mem_range.1 hi; omega)]
theorem mem_bucket {key : U3 → Nat} {B : Nat} {L : List U3} {x : U3} (h : x ∈ bucket key B L) : x ∈ L := by
  unfold bucket at h
  obtain ⟨v, -, hx⟩ := List.mem_flatMap.1 h
  exact (List.mem_filter.1 hx).1

/-! ### the walk -/
def okP (n q r k : Int) (x : U3) : Prop := 0 ≤ Cut.part n q r x.t ∧ Cut.part n q r x.t < k
def RelN (n q r : Int) (k : Nat) (L : List U3) (w : World) (i : Value) (wr : World) : Prop :=
  ∃ j : Nat, j ≤ L.length ∧ i = .int .i64 j ∧ (∀ x ∈ L.take j, okP n q r k x) ∧ Row wr w.heap.size 3 (ic (cntsN (k + 1) (pn n q r) (L.take j))) ∧ Below w.heap.size w wr
def RelM (n q r : Int) (k : Nat) (L : List U3) (w : World) (i : Value) (wr : World) : Prop :=
  ∃ m : Nat, m ≤ k ∧ i = .int .i64 m ∧ Row wr w.heap.size 3 (ic (sumsN (k + 1) (pn n q r) L m)) ∧ Below w.heap.size w wr
def Half (n q r : Int) (fan i : Nat) (L T : List U3) (vf vt vb va : Value) (ga gb capA capB : Nat) (resta restb : List Value) (from_ to_ : Value) (wr : World) : Prop :=
  (i % 2 = 0 ∧ from_ = va ∧ to_ = vb ∧ Pre wr ga 55 capA (ucs (bucket (fun x => pn n q r x % fan ^ i) (fan ^ i) L) ++ resta) ∧ Pre wr gb 55 capB (ucs T ++ restb)) ∨
  (i % 2 = 1 ∧ from_ = vb ∧ to_ = va ∧ Pre wr gb 55 capB (ucs (bucket (fun x => pn n q r x % fan ^ i) (fan ^ i) L) ++ restb) ∧ Pre wr ga 55 capA (ucs T ++ resta))
def RelG (n q r : Int) (fan s : Nat) (L : List U3) (va vb : Value) (ga gb capA capB : Nat) (resta restb : List Value) (W : World) (st fr to_ un : Value) (wr : World) : Prop :=
  ∃ (i : Nat) (T : List U3), i ≤ s ∧ T.length = L.length ∧ st = .int .i64 ((s - i : Nat) : Int) ∧ un = .int .i64 ((fan ^ i : Nat) : Int) ∧ Half n q r fan i L T va vb vb va ga gb capA capB resta restb fr to_ wr ∧ Turns (fun k => k = ga ∨ k = gb) W wr
structure ShufOk (n q r : Int) (k fan s : Nat) (L : List U3) (va vb : Value) (ga gb capA capB : Nat) (resta restb : List Value) (w : World) (e : Ending) (w' : World) : Prop where
  st : IsSt k fan s
  ok : ∀ x ∈ L, okP n q r k x
  gc : ∃ (gc : Nat) (fr to_ : Value) (T : List U3), e = .returned (.tuple #[fr, .slice (some ⟨gc, 0, none⟩) (k + 1) (k + 1), .int .i64 0]) ∧ w.heap.size ≤ gc ∧ Row w' gc 3 (ic (starts (pn n q r) L k)) ∧ T.length = L.length ∧
    ((s % 2 = 0 ∧ fr = va ∧ Pre w' ga 55 capA (ucs (bucket (pn n q r) k L) ++ resta) ∧ Pre w' gb 55 capB (ucs T ++ restb)) ∨
     (s % 2 = 1 ∧ fr = vb ∧ Pre w' gb 55 capB (ucs (bucket (pn n q r) k L) ++ restb) ∧ Pre w' ga 55 capA (ucs T ++ resta)))
  turns : Turns (fun k => k = ga ∨ k = gb) w w'
def ShufAt (n q r : Int) (k fan : Nat) (L : List U3) (va vb : Value) (ga gb capA capB : Nat) (resta restb : List Value) (w : World) (e : Ending) (w' : World) : Prop :=
  ((∃ x ∈ L, ¬ okP n q r k x) ∧ e = .returned (.tuple #[.slice none 0 0, .slice none 0 0, .int .i64 93]) ∧ Below w.heap.size w w') ∨ ∃ s, ShufOk n q r k fan s L va vb ga gb capA capB resta restb w e w'
theorem infoI' : (Try.prog.info? 3).map (fun i => (i.zero, i.size, i.bytes)) = some (some (.int .i64 0), 1, 8) := by kernel_rfl
theorem shufNo (n kk q r k fan : Int) (va vb : Value) (h : fcode k fan ≠ 0) (w : World) :
    Calls Try.prog 32 #[va, vb, .int .i64 k, .int .i64 fan, pf n kk q r] w fun e w' => e = .returned (.tuple #[.slice none 0 0, .slice none 0 0, .int .i64 (fcode k fan)]) ∧ w = w' := by
  have hf := Lib.hid (fun W => stagesNo k fan h W)
  obtain ⟨c, hc⟩ : ∃ c, fcode k fan = c := ⟨_, rfl⟩
  rw [hc] at hf h ⊢
  have hb : (c != 0) = true := by simpa using h
  clear hc h
  unfold pf rg
  go_enter Try.func32, Try.ntmps32
  go_wp2_with fail
  go_step3
  go_wp2_with fail
  refine (hf.out _).mono ?_
  rintro e w1 ⟨rfl, rfl⟩
  go_wp2
  rw [Exit.noGoto_ret]
  go_ret3
  exact ⟨rfl, rfl⟩
theorem shufTight (n kk q r : Int) (k fan : Nat) (h1 : 1 ≤ k) (h2 : k ≤ 512) (h3 : 2 ≤ fan) (h4 : fan ≤ 256) (Af Ab : Option Addr) (la lb capf capb : Nat) (h : lb < la) (w : World) :
    Calls Try.prog 32 #[.slice Af la capf, .slice Ab lb capb, .int .i64 k, .int .i64 fan, pf n kk q r] w fun e w' => e = .returned (.tuple #[.slice none 0 0, .slice none 0 0, .int .i64 94]) ∧ w = w' := by
  have hf := Lib.hid (fun W => stagesYes k fan h1 h2 h3 h4 W)
  have hb : decide (lb < la) = true := decide_eq_true h
  unfold pf rg
  have hnil := fun W => by exact (show (binOp .eql 52 (.func (.func 30) #[.agg #[.int .u32 n, .int .u32 kk, .int .u32 q, .int .u32 r]] #[]) .nilFunc).run Try.prog W = .ok (.bool false) W by kernel_rfl)
  have hgd := fun (x y : Operand) (W : World) => by exact (show (eqGuard .eql 52 x y (.func (.func 30) #[.agg #[.int .u32 n, .int .u32 kk, .int .u32 q, .int .u32 r]] #[]) .nilFunc).run Try.prog W = .ok () W by kernel_rfl)
  go_enter Try.func32, Try.ntmps32
  go_wp2_with fail
  go_step3
  go_wp2_with fail
  refine (hf.out _).mono ?_
  rintro e w1 ⟨s, rfl, hs, rfl⟩
  clear hs
  go_wp2
  rw [Exit.noGoto_ret]
  go_ret3
  exact ⟨rfl, rfl⟩
end Go.Proofs.Ytepljdnhnnpdmaa.Shuf
