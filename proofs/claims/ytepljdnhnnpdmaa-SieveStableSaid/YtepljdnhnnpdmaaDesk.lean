/-
  The audits' desk: what is asked ahead; a rule that is broken; every vertex looked at; the verdict. No condition.
-/
import Derived.Test.YtepljdnhnnpdmaaOver
set_option linter.unusedVariables false
set_option linter.unusedSimpArgs false
namespace Go.Proofs.Ytepljdnhnnpdmaa.Desk
open Go.RowKit Go.Shelf K Feed

/-! ### what a call turns: the blocks of S alone, and new ones -/
structure Turns (S : Nat → Prop) (W W' : World) : Prop where
  os : W'.os = W.os
  b : Below 0 W W'
  block : ∀ k, k < W.heap.size → ¬ S k → W'.heap[k]? = W.heap[k]?
section
variable {S S' : Nat → Prop} {A B C W W' : World}
theorem Turns.refl (S : Nat → Prop) (W : World) : Turns S W W := ⟨rfl, Below.refl _ _, fun _ _ _ => rfl⟩
theorem Turns.size (h : Turns S A B) : A.heap.size ≤ B.heap.size := h.b.size
theorem Turns.trans (h : Turns S A B) (k : Turns S B C) : Turns S A C := ⟨k.os.trans h.os, h.b.trans k.b, fun i hi hs => (k.block i (Nat.lt_of_lt_of_le hi h.size) hs).trans (h.block i hi hs)⟩
theorem Turns.more (h : Turns S A B) (hs : ∀ k, S k → S' k) : Turns S' A B := ⟨h.os, h.b, fun k hk hn => h.block k hk fun g => hn (hs k g)⟩
theorem Turns.alloc (h : Turns S A B) (o : Obj) : Turns S A (B.alloc o) := h.trans ⟨rfl, (Below.refl 0 B).alloc (Nat.zero_le _) o, fun k hk _ => Below.heap_alloc B o k hk⟩
theorem Turns.setCell (h : Turns S A B) {p : Addr} (hp : S p.block) (v : Value) : Turns S A (B.setCell p v) := h.trans ⟨rfl, (Below.refl 0 B).setCell (Nat.zero_le _) v, fun k _ hn => heap_setCell_other B p k v (fun e => hn (by rw [e]; exact hp))⟩
theorem Turns.drew (h : Turns S A B) : Turns S A B.drew := ⟨h.os, h.b.drew, h.block⟩
theorem Turns.drewN (h : Turns S A B) (q : Nat) : Turns S A (B.drewN q) := ⟨h.os, below_drewN h.b q, h.block⟩
theorem Turns.of_below (h : Below A.heap.size A B) : Turns S A B := ⟨h.os, h.mono (Nat.zero_le _), fun k hk _ => h.block k hk⟩
theorem Turns.row (h : Turns S A B) {b : Nat} {T : TypeId} {cs : Array Value} (hr : Row A b T cs) (hn : ¬ S b) : Row B b T cs := (h.block b hr.lt hn).trans hr
theorem Turns.below (h : Turns S A B) {n : Nat} (hn : n ≤ A.heap.size) (hs : ∀ k, S k → n ≤ k) : Below n A B :=
  ⟨h.b.1, h.b.2, h.b.3, h.size, fun k hk => h.block k (by omega) fun g => by have := hs k g; omega⟩
theorem Turns.above (h : Turns S A B) {H : Nat} (hs : ∀ k, S k → k < H) : Above H A B := ⟨h.size, fun k hk hlt => h.block k hlt fun g => by have := hs k g; omega⟩
end

/-! ### states -/
structure S8 where
  l : List Int
  len : l.length = 8
  ok : ∀ z ∈ l, 0 ≤ z ∧ z ≤ 18446744073709551615
def sv (x : S8) : List Value := x.l.map (.int .u64)
def svs (l : List S8) : List Value := l.flatMap sv
theorem sv_length (x : S8) : (sv x).length = 8 := by simp [sv, x.len]
theorem svs_length (l : List S8) : (svs l).length = l.length * 8 := flat_length sv_length l
def S8.at (x : S8) (i : Nat) : Int := x.l.getD i 0
theorem S8.at_ok (x : S8) (i : Nat) : 0 ≤ x.at i ∧ x.at i ≤ 18446744073709551615 := by
  unfold S8.at
  rw [List.getD_eq_getElem?_getD]
  cases h : x.l[i]? with
  | none => simp
  | some z => exact x.ok z (List.mem_of_getElem? h)
theorem S8.eq (x : S8) : x.l = [x.at 0, x.at 1, x.at 2, x.at 3, x.at 4, x.at 5, x.at 6, x.at 7] := by
  obtain ⟨l, h, ok⟩ := x
  match l, h with
  | [a, b, c, d, e, f, g, i], _ => rfl
def zero8 : S8 := ⟨[0, 0, 0, 0, 0, 0, 0, 0], rfl, by simp⟩
instance : Inhabited S8 := ⟨zero8⟩
theorem sv_of (cs : List Value) (h : Matches (List.replicate 8 (.int .u64)) cs) : ∃ x, cs = sv x := by
  obtain ⟨a, _, rfl, ha, h⟩ := matches_int (ks := List.replicate 7 (.int .u64)) h
  obtain ⟨b, _, rfl, hb, h⟩ := matches_int (ks := List.replicate 6 (.int .u64)) h
  obtain ⟨c, _, rfl, hc, h⟩ := matches_int (ks := List.replicate 5 (.int .u64)) h
  obtain ⟨d, _, rfl, hd, h⟩ := matches_int (ks := List.replicate 4 (.int .u64)) h
  obtain ⟨e, _, rfl, he, h⟩ := matches_int (ks := List.replicate 3 (.int .u64)) h
  obtain ⟨f, _, rfl, hf, h⟩ := matches_int (ks := List.replicate 2 (.int .u64)) h
  obtain ⟨g, _, rfl, hg, h⟩ := matches_int (ks := List.replicate 1 (.int .u64)) h
  obtain ⟨i, _, rfl, hi, h⟩ := matches_int (ks := []) h
  obtain rfl := matches_nil h
  refine ⟨⟨[a, b, c, d, e, f, g, i], rfl, ?_⟩, rfl⟩
  intro z hz
  simp only [List.mem_cons, List.not_mem_nil, or_false] at hz
  rcases hz with rfl | rfl | rfl | rfl | rfl | rfl | rfl | rfl
  all_goals (first | exact u64_of ha | exact u64_of hb | exact u64_of hc | exact u64_of hd | exact u64_of he | exact u64_of hf | exact u64_of hg | exact u64_of hi)
/-- A state in a list that lies somewhere. -/
theorem Lay.state {W : World} {B : Nat} {A : Option Addr} {l : List S8} (h : Lay W B A (svs l)) {k : Nat} {x : S8} (hx : l[k]? = some x) :
    ∃ b off, A = some ⟨b, off, none⟩ ∧ b < B ∧ ∀ f, f < 8 → W.cell? ⟨b, off + k * 8 + f, none⟩ = some (.int .u64 (x.at f)) := by
  have hk := (List.getElem?_eq_some_iff.1 hx).1
  obtain ⟨b, off, e, hB, hc⟩ := h (by
    intro h0
    have h1 := svs_length l
    rw [h0] at h1
    simp only [List.length_nil] at h1
    omega)
  refine ⟨b, off, e, hB, fun f hf => ?_⟩
  have := hc _ _ (flat_get (f := f) sv_length hx (v := .int .u64 (x.at f)) (by
    have : f < x.l.length := by rw [x.len]; exact hf
    simp [sv, S8.at, List.getD_eq_getElem?_getD, this]))
  rwa [← Nat.add_assoc] at this

/-! ### the desk -/
def sitCode (made states n room need : Int) : Int := if made ≠ 0 then made else if states ≠ n then 180 else if room < need then 94 else 0
theorem sit_no (n kind : Int) (b0 b1 : Nat) (A : Option Addr) (len cap : Nat) (room need made : Int) (hn : 0 ≤ n ∧ n ≤ 4294967295) (h : sitCode made len n room need ≠ 0) (w : World) :
    Calls Try.prog 66 #[.int .u32 n, .int .i64 kind, feedVal b0 b1, .slice A len cap, .int .i64 room, .int .i64 need, .int .i64 made] w fun e w' => e = .returned (.tuple #[.pointer none, .int .i64 (sitCode made len n room need)]) ∧ w = w' := by
  have hnil := fun W => by exact (show (binOp .eql 32 (feedVal b0 b1) .nilFunc).run Try.prog W = .ok (.bool false) W by kernel_rfl)
  have hgd := fun (x y : Operand) (W : World) => by exact (show (eqGuard .eql 32 x y (feedVal b0 b1) .nilFunc).run Try.prog W = .ok () W by kernel_rfl)
  unfold sitCode at h ⊢
  by_cases h1 : made ≠ 0
  · rw [if_pos h1]
    have d1 : (made != 0) = true := by simpa using h1
    clear h h1
    go_enter Try.func66, Try.ntmps66
    go_wp2
    go_ret2
    exact ⟨rfl, rfl⟩
  rw [if_neg h1] at h ⊢
  obtain rfl : made = 0 := by simpa using h1
  clear h1
  by_cases h2 : (len : Int) ≠ n
  · rw [if_pos h2]
    have d2 : ((len : Int) != n) = true := by simpa using h2
    clear h h2
    go_enter Try.func66, Try.ntmps66
    go_wp2
    go_ret2
    exact ⟨rfl, rfl⟩
  rw [if_neg h2] at h ⊢
  obtain rfl : (len : Int) = n := by simpa using h2
  clear h2
  by_cases h3 : room < need
  · rw [if_pos h3]
    clear h
    go_enter Try.func66, Try.ntmps66
    go_wp2
    go_ret2
    exact ⟨rfl, rfl⟩
  · rw [if_neg h3] at h
    exact absurd rfl h
def SatAt (w : World) (n kind : Int) (b0 b1 : Nat) (A : Option Addr) (len cap : Nat) (e : Ending) (w' : World) : Prop :=
  e = .returned (.tuple #[.pointer (some ⟨w.heap.size, 0, none⟩), .int .i64 0]) ∧ w' = w.alloc (.cells (deskRow n kind (feedVal b0 b1) (.slice A len cap) false 0 0) 152)
theorem sit_yes (n kind : Int) (b0 b1 : Nat) (A : Option Addr) (len cap : Nat) (room need made : Int) (hn : 0 ≤ n ∧ n ≤ 4294967295) (h : sitCode made len n room need = 0) (w : World) :
    Calls Try.prog 66 #[.int .u32 n, .int .i64 kind, feedVal b0 b1, .slice A len cap, .int .i64 room, .int .i64 need, .int .i64 made] w (SatAt w n kind b0 b1 A len cap) := by
  have hnil := fun W => by exact (show (binOp .eql 32 (feedVal b0 b1) .nilFunc).run Try.prog W = .ok (.bool false) W by kernel_rfl)
  have hgd := fun (x y : Operand) (W : World) => by exact (show (eqGuard .eql 32 x y (feedVal b0 b1) .nilFunc).run Try.prog W = .ok () W by kernel_rfl)
  unfold sitCode at h
  by_cases h1 : made ≠ 0
  · rw [if_pos h1] at h; exact absurd h h1
  rw [if_neg h1] at h
  obtain rfl : made = 0 := by simpa using h1
  clear h1
  by_cases h2 : (len : Int) ≠ n
  · rw [if_pos h2] at h; cases h
  rw [if_neg h2] at h
  obtain rfl : (len : Int) = n := by simpa using h2
  clear h2
  have h3 : ¬ room < need := by
    intro g
    rw [if_pos g] at h
    cases h
  clear h
  unfold feedVal at hnil hgd ⊢
  go_enter Try.func66, Try.ntmps66
  go_wp2
  go_ret2
  exact ⟨rfl, rfl⟩

section
variable {W : World} {D : Nat} {n kind v rule : Int} {ed sl : Value} {r : Bool}
theorem desk0 (h : Row W D 152 (deskRow n kind ed sl r v rule)) : W.cell? ⟨D, 0, none⟩ = some (.int .u32 n) := h.get rfl
theorem desk1 (h : Row W D 152 (deskRow n kind ed sl r v rule)) : W.cell? ⟨D, 1, none⟩ = some (.int .i64 kind) := h.get rfl
theorem desk2 (h : Row W D 152 (deskRow n kind ed sl r v rule)) : W.cell? ⟨D, 2, none⟩ = some ed := h.get rfl
theorem desk3 (h : Row W D 152 (deskRow n kind ed sl r v rule)) : W.cell? ⟨D, 3, none⟩ = some sl := h.get rfl
theorem desk4 (h : Row W D 152 (deskRow n kind ed sl r v rule)) : W.cell? ⟨D, 4, none⟩ = some (.bool r) := h.get rfl
theorem desk5 (h : Row W D 152 (deskRow n kind ed sl r v rule)) : W.cell? ⟨D, 5, none⟩ = some (.int .u32 v) := h.get rfl
theorem desk6 (h : Row W D 152 (deskRow n kind ed sl r v rule)) : W.cell? ⟨D, 6, none⟩ = some (.int .i64 rule) := h.get rfl
end
/-! ### a rule that is broken -/
/-- The least vertex with a broken rule so far, and the rule (0: none). -/
def noteD (f : Int × Int) (v rule : Int) (is : Bool) : Int × Int := if is = true ∧ (f.2 = 0 ∨ v < f.1 ∨ v = f.1 ∧ rule < f.2) then (v, rule) else f
def BrokeAt (D : Nat) (n kind : Int) (ed sl : Value) (f : Int × Int) (w : World) (e : Ending) (w' : World) : Prop :=
  e = .returned (.tuple #[]) ∧ Row w' D 152 (deskRow n kind ed sl false f.1 f.2) ∧ Turns (fun k => k = D) w w'
theorem broken (D : Nat) (n kind : Int) (ed sl : Value) (f : Int × Int) (v rule : Int) (is : Bool) (w : World) (hr : Row w D 152 (deskRow n kind ed sl false f.1 f.2)) :
    Calls Try.prog 75 #[.pointer (some ⟨D, 0, none⟩), .int .u32 v, .int .i64 rule, .bool is] w (BrokeAt D n kind ed sl (noteD f v rule is) w) := by
  have c4 := desk4 hr
  have c5 := desk5 hr
  have c6 := desk6 hr
  have f4 := hr.free 4
  have f5 := hr.free 5
  have f6 := hr.free 6
  have HR := Lib.hid hr
  clear hr
  obtain ⟨fv, fr⟩ := f
  simp only at c5 c6
  have no : ∀ b : Bool, b = is → (b = false ∨ (fr ≠ 0 ∧ ¬ v < fv ∧ ¬ (v = fv ∧ rule < fr))) → noteD (fv, fr) v rule is = (fv, fr) := by
    intro b hb h
    unfold noteD
    rw [if_neg]
    rintro ⟨h1, h2⟩
    subst hb
    rcases h with h | ⟨h3, h4, h5⟩
    · rw [h] at h1; cases h1
    · rcases h2 with h | h | h
      · exact h3 h
      · exact h4 h
      · exact h5 h
  have stay : BrokeAt D n kind ed sl (fv, fr) w (.returned (.tuple #[])) w := ⟨rfl, HR.out, Turns.refl _ _⟩
  have put : BrokeAt D n kind ed sl (v, rule) w (.returned (.tuple #[])) (((w.setCell ⟨D, 4, none⟩ (.bool false)).setCell ⟨D, 5, none⟩ (.int .u32 v)).setCell ⟨D, 6, none⟩ (.int .i64 rule)) :=
    ⟨rfl, ((HR.out.set 4 _).set 5 _).set 6 _, (((Turns.refl (fun k => k = D) w).setCell (p := ⟨D, 4, none⟩) rfl _).setCell (p := ⟨D, 5, none⟩) rfl _).setCell (p := ⟨D, 6, none⟩) rfl _⟩
  have HS := Lib.hid stay
  have HP := Lib.hid put
  have HN := Lib.hid no
  clear stay put no
  cases is with
  | false =>
    rw [HN.out false rfl (.inl rfl)]
    go_enter Try.func75, Try.ntmps75
    go_wp2
    go_end0
    exact HS.out
  | true =>
    by_cases h1 : fr = 0
    · rw [show noteD (fv, fr) v rule true = (v, rule) from if_pos ⟨rfl, .inl h1⟩]
      have g1 : (fr == 0) = true := by simpa using h1
      clear h1
      go_enter Try.func75, Try.ntmps75
      go_wp2
      go_end0
      exact HP.out
    have g1 : (fr == 0) = false := by simpa using h1
    by_cases h2 : v < fv
    · rw [show noteD (fv, fr) v rule true = (v, rule) from if_pos ⟨rfl, .inr (.inl h2)⟩]
      clear h1
      go_enter Try.func75, Try.ntmps75
      go_wp2
      go_end0
      exact HP.out
    by_cases h3 : v = fv
    · have g3 : (v == fv) = true := by simpa using h3
      by_cases h4 : rule < fr
      · rw [show noteD (fv, fr) v rule true = (v, rule) from if_pos ⟨rfl, .inr (.inr ⟨h3, h4⟩)⟩]
        clear h1 h3
        go_enter Try.func75, Try.ntmps75
        go_wp2
        go_end0
        exact HP.out
      · rw [HN.out true rfl (.inr ⟨h1, h2, fun h => h4 h.2⟩)]
        clear h1 h3
        go_enter Try.func75, Try.ntmps75
        go_wp2
        go_end0
        exact HS.out
    · have g3 : (v == fv) = false := by simpa using h3
      rw [HN.out true rfl (.inr ⟨h1, h2, fun h => h3 h.1⟩)]
      clear h1 h3
      go_enter Try.func75, Try.ntmps75
      go_wp2
      go_end0
      exact HS.out

/-! ### the verdict -/
def verdictOf (e : Int) (f : Int × Int) : Value := if e ≠ 0 then .agg #[.bool false, .int .u32 0, .int .i64 0] else if f.2 = 0 then .agg #[.bool true, .int .u32 0, .int .i64 0] else .agg #[.bool false, .int .u32 f.1, .int .i64 f.2]
theorem verdict (D : Nat) (n kind : Int) (ed sl : Value) (f : Int × Int) (e : Int) (w : World) (hr : Row w D 152 (deskRow n kind ed sl false f.1 f.2)) :
    Calls Try.prog 77 #[.pointer (some ⟨D, 0, none⟩), .int .i64 e] w fun x w' => x = .returned (.tuple #[verdictOf e f, .int .i64 e]) ∧ Below w.heap.size w w' := by
  have hD := hr.lt
  have c4 := desk4 (hr.alloc (.cells #[.bool false, .int .u32 0, .int .i64 0] 79))
  have c5 := desk5 (hr.alloc (.cells #[.bool false, .int .u32 0, .int .i64 0] 79))
  have c6 := desk6 (hr.alloc (.cells #[.bool false, .int .u32 0, .int .i64 0] 79))
  obtain ⟨fv, fr⟩ := f
  simp only at c5 c6
  clear hr
  unfold verdictOf
  by_cases h1 : e ≠ 0
  · rw [if_pos h1]
    have g1 : (e != 0) = true := by simpa using h1
    clear h1
    go_enter Try.func77, Try.ntmps77
    go_wp2
    refine bodyPost_ret (v := .tuple #[.agg #[.bool false, .int .u32 0, .int .i64 0], .int .i64 e]) (by simp [results, Try.results77, go_sem]) rfl ⟨rfl, (Below.refl _ _).alloc (Nat.le_refl _) _⟩
  rw [if_neg h1]
  obtain rfl : e = 0 := by simpa using h1
  clear h1
  by_cases h2 : fr = 0
  · rw [if_pos h2]
    have g2 : (fr == 0) = true := by simpa using h2
    clear h2
    go_enter Try.func77, Try.ntmps77
    go_wp2
    refine bodyPost_ret (v := .tuple #[.agg #[.bool true, .int .u32 0, .int .i64 0], .int .i64 0]) (by simp [results, Try.results77, go_sem]) rfl ⟨rfl, (Below.refl _ _).alloc (Nat.le_refl _) _⟩
  · rw [if_neg h2]
    have g2 : (fr == 0) = false := by simpa using h2
    clear h2
    go_enter Try.func77, Try.ntmps77
    go_wp2
    refine bodyPost_ret (v := .tuple #[.agg #[.bool false, .int .u32 fv, .int .i64 fr], .int .i64 0]) (by simp [results, Try.results77, go_sem]) rfl ⟨rfl, (Below.refl _ _).alloc (Nat.le_refl _) _⟩

/-! ### every vertex looked at -/
def RelE (J : Nat → World → Prop) (n n₀ : Nat) (w : World) (i : Value) (wr : World) : Prop := ∃ k : Nat, k ≤ n ∧ i = .int .i64 k ∧ J k wr ∧ Below n₀ w wr ∧ w.heap.size ≤ wr.heap.size
def svArr (x : S8) : Array Value := #[.int .u64 (x.at 0), .int .u64 (x.at 1), .int .u64 (x.at 2), .int .u64 (x.at 3), .int .u64 (x.at 4), .int .u64 (x.at 5), .int .u64 (x.at 6), .int .u64 (x.at 7)]
set_option maxRecDepth 100000 in
set_option maxHeartbeats 2000000 in
theorem each (D n₀ : Nat) (A : Option Addr) (l : List S8) (cap : Nat) (hl : l.length ≤ 4294967295) (k : FuncId) (caps : Array Value) (eg : ∀ (args : Array Value) (w : World), (callFunc k args).run Try.prog w = .ok (.enter k args) w)
    (J : Nat → World → Prop) (w : World) (hE : w.cell? ⟨D, 3, none⟩ = some (.slice A l.length cap)) (hA : Lay w n₀ A (svs l)) (hn₀ : n₀ ≤ w.heap.size)
    (hJB : ∀ i W W', J i W → Below W.heap.size W W' → J i W')
    (hsee : ∀ (i : Nat) (x : S8) W, J i W → l[i]? = some x → n₀ ≤ W.heap.size → Calls Try.prog k (#[.int .u32 i, .agg (svArr x)] ++ caps) W fun e W' => e = .returned (.tuple #[]) ∧ J (i + 1) W' ∧ Below n₀ W W') (h0 : J 0 w) :
    Calls Try.prog 73 #[.pointer (some ⟨D, 0, none⟩), .func (.func k) #[] caps] w fun e W' => e = .returned (.tuple #[]) ∧ J l.length W' ∧ Below n₀ w W' := by
  have HL := Lib.hid hA
  have HS := Lib.hid hsee
  have HJ := Lib.hid hJB
  clear hA hsee hJB
  go_enter Try.func73, Try.ntmps73
  go_wp2
  go_loopw [11] (fun i wr => RelE J l.length n₀ w i wr) (fun i _ => l.length - (intOf i).toNat)
  case atStart => exact ⟨0, Nat.zero_le _, rfl, h0, Below.refl _ _, Nat.le_refl _⟩
  case round =>
    obtain ⟨i, hi, rfl, hJs, hnx, hsz⟩ := hrel
    rcases Nat.lt_or_ge i l.length with hlt | hge
    · obtain ⟨x, hx⟩ : ∃ x, l[i]? = some x := ⟨_, List.getElem?_eq_getElem hlt⟩
      obtain ⟨b, off, rfl, hB, hc⟩ := Lay.state (HL.out.below hnx) hx
      have c0 := hc 0 (by omega)
      have c1 := hc 1 (by omega)
      have c2 := hc 2 (by omega)
      have c3 := hc 3 (by omega)
      have c4 := hc 4 (by omega)
      have c5 := hc 5 (by omega)
      have c6 := hc 6 (by omega)
      have c7 := hc 7 (by omega)
      rw [Nat.add_zero] at c0
      have hkb : decide ((i : Int) < (l.length : Int)) = true := by simp; omega
      have HX := Lib.hid hx
      have HJs := Lib.hid hJs
      have HN := Lib.hid hnx
      clear hc hx hJs hnx
      go_wp2_with fail
      refine (HS.out i x _ (HJ.out _ _ _ HJs.out ((Below.refl wr.heap.size wr).alloc (Nat.le_refl _) (.cells (svArr x) 106))) HX.out (by simp; omega)).mono ?_
      rintro e w1 ⟨rfl, hj1, hb1⟩
      have hs1 := hb1.size
      simp only [World.size_alloc] at hs1
      have HJ1 := Lib.hid hj1
      have HB1 := Lib.hid (HN.out.trans (((Below.refl n₀ wr).alloc (by omega) (.cells (svArr x) 106)).trans hb1))
      clear hj1 hb1
      go_wp2
      go_roundw
      case rel => exact ⟨i + 1, by omega, by go_num, HJ1.out, HB1.out, by omega⟩
      case measure => simp [intOf]; omega
    · obtain rfl : i = l.length := by omega
      have hkb : decide ((l.length : Int) < (l.length : Int)) = false := by simp
      go_wp2
      go_end0
      exact ⟨rfl, hJs, hnx⟩
end Go.Proofs.Ytepljdnhnnpdmaa.Desk
