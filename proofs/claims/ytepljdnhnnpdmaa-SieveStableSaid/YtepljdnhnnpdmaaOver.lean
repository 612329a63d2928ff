/-
  The audits' walk over edges: every edge in its order is handed on, as long as it may be one. No condition.
-/
import Derived.Test.YtepljdnhnnpdmaaFeed
import Derived.Sort.QuietIn
import Derived.Deep.DrawnRows
set_option linter.unusedVariables false
set_option linter.unusedSimpArgs false
namespace Go.Proofs.Ytepljdnhnnpdmaa.Desk
open Go.RowKit Go.Shelf K Feed
attribute [local go_sem] Oper.semAt_some

/-! ### plain: the first thing that is wrong with a list of edges -/
/-- What is wrong with an edge (0: nothing), where weights are not looked at but for kind 1. -/
def wrong (n kind : Int) (x : E3) : Int := if n ≤ x.s ∨ n ≤ x.d then 91 else if kind = 1 ∧ x.x ≠ 0 then 95 else 0
def oerr (n kind beh : Int) : List E3 → Int
  | [] => beh
  | x :: l => if wrong n kind x = 0 then oerr n kind beh l else wrong n kind x
/-- What is wrong with what the iterator tells. -/
def code (n kind : Int) (y : Tick) : Int := if y.2 = 0 then wrong n kind y.1 else y.2
def Good (n kind : Int) (l : List Tick) : Prop := ∀ y ∈ l, code n kind y = 0
theorem good_snoc {n kind : Int} {l : List Tick} {y : Tick} (h : Good n kind l) (hy : code n kind y = 0) : Good n kind (l ++ [y]) := by
  intro z hz
  rcases List.mem_append.1 hz with h1 | h1
  · exact h z h1
  · obtain rfl : z = y := by simpa using h1
    exact hy
theorem oerr_good {n kind beh : Int} : ∀ {l : List E3}, Good n kind (l.map fun x => (x, 0)) → oerr n kind beh l = beh
  | [], _ => rfl
  | x :: l, h => by
    have h1 := h (x, 0) (by simp)
    have h2 : wrong n kind x = 0 := by simpa [code] using h1
    rw [oerr, if_pos h2]
    exact oerr_good fun y hy => h y (by simp only [List.map_cons, List.mem_cons]; exact .inr hy)
theorem told_all {n kind beh : Int} {l : List E3} (h : Good n kind (told l beh)) : beh = 0 ∧ Good n kind (l.map fun x => ((x, 0) : Tick)) ∧ (told l beh).map (·.1) = l := by
  have hb : beh = 0 := by
    rcases Decidable.em (beh = 0) with h1 | h1
    · exact h1
    · have h2 := h (E3.zero, beh) (by simp [told, h1])
      simp [code, h1] at h2
  subst hb
  refine ⟨rfl, fun y hy => h y ?_, by simp [told, Function.comp_def]⟩
  simp only [told, if_true, List.append_nil]
  exact hy
theorem told_stop {n kind beh : Int} : ∀ {l : List E3} {ini : List Tick} {y : Tick}, ini ++ [y] <+: told l beh → Good n kind ini → code n kind y ≠ 0 →
    oerr n kind beh l = code n kind y ∧ (ini.map (·.1)) <+: l
  | [], ini, y, hp, hg, hc => by
    obtain ⟨r, hr⟩ := hp
    rcases Decidable.em (beh = 0) with h1 | h1
    · simp [told, h1] at hr
    · simp only [told, List.map_nil, List.nil_append, h1, if_false] at hr
      cases ini with
      | nil =>
        simp only [List.nil_append, List.cons_append, List.cons.injEq, List.append_eq_nil_iff] at hr
        obtain ⟨rfl, -⟩ := hr
        exact ⟨by simp [oerr, code, h1], by simp⟩
      | cons a t => simp at hr
  | x :: l, ini, y, hp, hg, hc => by
    obtain ⟨r, hr⟩ := hp
    have ht : told (x :: l) beh = (x, 0) :: told l beh := by simp [told]
    rw [ht] at hr
    cases ini with
    | nil =>
      simp only [List.nil_append, List.cons_append, List.cons.injEq] at hr
      obtain ⟨rfl, -⟩ := hr
      have h2 : code n kind (x, 0) = wrong n kind x := by simp [code]
      rw [h2] at hc ⊢
      exact ⟨by rw [oerr, if_neg hc], by simp⟩
    | cons a t =>
      simp only [List.cons_append, List.cons.injEq] at hr
      obtain ⟨rfl, hr⟩ := hr
      have h2 : wrong n kind x = 0 := by simpa [code] using hg (x, 0) (by simp)
      obtain ⟨h3, h4⟩ := told_stop (l := l) (ini := t) (y := y) ⟨r, by simpa using hr⟩ (fun z hz => hg z (List.mem_cons_of_mem _ hz)) hc
      exact ⟨by rw [oerr, if_pos h2]; exact h3, by simpa using h4⟩

/-! ### what a call of a function value leaves as it was: all that lies at or beyond H -/
structure Above (H : Nat) (W W' : World) : Prop where
  size : W.heap.size ≤ W'.heap.size
  same : ∀ k, H ≤ k → k < W.heap.size → W'.heap[k]? = W.heap[k]?
section
variable {H H' : Nat} {A B C W W' : World}
theorem Above.refl (H : Nat) (W : World) : Above H W W := ⟨Nat.le_refl _, fun _ _ _ => rfl⟩
theorem Above.trans (h : Above H A B) (k : Above H B C) : Above H A C := ⟨Nat.le_trans h.size k.size, fun i hi hlt => (k.same i hi (Nat.lt_of_lt_of_le hlt h.size)).trans (h.same i hi hlt)⟩
theorem Above.from (h : Above H W W') {B : Nat} (hB : H ≤ B) : KeepsFrom B W W' := ⟨h.size, fun k o hk ho _ => by
  rw [h.same k (by omega) (Array.getElem?_eq_some_iff.1 ho).1]; exact ho⟩
theorem Above.alloc (h : Above H A B) (o : Obj) : Above H A (B.alloc o) := h.trans ⟨by simp, fun k _ hk => Below.heap_alloc _ _ _ hk⟩
theorem Above.setCell (h : Above H A B) {p : Addr} (hp : p.block < H) (v : Value) : Above H A (B.setCell p v) := h.trans ⟨by simp, fun k hk _ => heap_setCell_other B p k v (by omega)⟩
theorem Above.drew (h : Above H A B) : Above H A B.drew := ⟨h.size, h.same⟩
theorem Above.mono (h : Above H A B) (hH : H ≤ H') : Above H' A B := ⟨h.size, fun k hk hlt => h.same k (by omega) hlt⟩
theorem Above.row (h : Above H A B) {b : Nat} {T : TypeId} {cs : Array Value} (hr : Row A b T cs) (hb : H ≤ b) : Row B b T cs := (h.same b hb hr.lt).trans hr
/-- What turns nothing that was there turns nothing beyond. -/
theorem Above.of_below (h : Below A.heap.size A B) : Above H A B := ⟨h.size, fun k _ hk => h.block k hk⟩
end

/-! ### the desk's fields -/
def deskRow (n kind : Int) (ed sl : Value) (r : Bool) (v rule : Int) : Array Value := #[.int .u32 n, .int .i64 kind, ed, sl, .bool r, .int .u32 v, .int .i64 rule]
theorem neq_edge (a b c a' b' c' : Int) (W : World) : (binOp .neq 36 (.agg #[.int .u32 a, .int .u32 b, .int .u32 c]) (.agg #[.int .u32 a', .int .u32 b', .int .u32 c'])).run Try.prog W = .ok (.bool (!(a == a' && (b == b' && c == c')))) W := by
  rw [run_neq_struct]
  have u := Try.underlying36
  have u2 := Try.underlying34
  by_cases h1 : a = a' <;> by_cases h2 : b = b' <;> by_cases h3 : c = c' <;> simp [go_sem, u, u2, h1, h2, h3]
theorem weighs (D : Nat) (n kind x : Int) (hk : kind ≠ 3) (w : World) (hc : w.cell? ⟨D, 1, none⟩ = some (.int .i64 kind)) :
    Calls Try.prog 110 #[.pointer (some ⟨D, 0, none⟩), .int .u32 x] w fun e w' => e = .returned (.bool (!decide (kind = 1 ∧ x ≠ 0))) ∧ w = w' := by
  by_cases h1 : kind = 1
  · subst h1
    by_cases h2 : x = 0
    · subst h2
      go_enter Try.func110, Try.ntmps110
      go_wp2
      go_ret
      exact ⟨rfl, rfl⟩
    · have h3 : (x == 0) = false := by simpa using h2
      have e : (!decide ((1 : Int) = 1 ∧ x ≠ 0)) = false := by simp [h2]
      rw [e]
      go_enter Try.func110, Try.ntmps110
      go_wp2
      go_ret
      exact ⟨rfl, rfl⟩
  · have e : (!decide (kind = 1 ∧ x ≠ 0)) = true := by simp [h1]
    have h3 : (kind == 1) = false := by simpa using h1
    have h4 : (kind == 3) = false := by simpa using hk
    rw [e]
    go_enter Try.func110, Try.ntmps110
    go_wp2
    go_ret
    exact ⟨rfl, rfl⟩

def OverI (n kind : Int) (J : List E3 → World → Prop) (H D : Nat) (n₀ : Nat) (w : World) (see : Value) (r : Int) (pre : List Tick) (W : World) : Prop :=
  (Good n kind pre ∧ J (pre.map (·.1)) W ∧ Below n₀ w W) ∧ Row W H 107 #[.pointer (some ⟨D, 0, none⟩)] ∧ Row W (H + 1) 118 #[see] ∧ Row W (H + 2) 22 #[.int .i64 r]
def OverX (n kind : Int) (J : List E3 → World → Prop) (H D : Nat) (n₀ : Nat) (w : World) (see : Value) (c : Code) (pre : List Tick) (W : World) : Prop :=
  c = .ret ∧ ∃ ini y, pre = ini ++ [y] ∧ code n kind y ≠ 0 ∧ OverI n kind J H D n₀ w see (code n kind y) ini W
def OverPost (n kind beh : Int) (J : List E3 → World → Prop) (n₀ : Nat) (w : World) (l : List E3) (e : Ending) (W : World) : Prop :=
  e = .returned (.int .i64 (oerr n kind beh l)) ∧ (∃ pre, pre <+: l ∧ (oerr n kind beh l = 0 → pre = l) ∧ J pre W) ∧ Below n₀ w W

section
variable {n kind : Int} {J : List E3 → World → Prop} {H D n₀ : Nat} {w A B : World} {see : Value} {r : Int} {pre : List Tick}
theorem OverI.kept (hJB : ∀ pre W W', J pre W → Below H W W' → J pre W') (hn : n₀ ≤ H) (h : OverI n kind J H D n₀ w see r pre A) {row : Option Nat} (hg : A.grownBy B row) (hr : ∀ k, row = some k → H + 3 ≤ k) : OverI n kind J H D n₀ w see r pre B := by
  obtain ⟨⟨g, j, b⟩, r0, r1, r2⟩ := h
  have hlt := r2.lt
  have hb : Below H A B := (Below.refl H A).grown hg (by omega) (fun k e => by have := hr k e; omega)
  refine ⟨⟨g, hJB _ _ _ j hb, b.trans (hb.mono hn)⟩, r0.grown hg (fun e => ?_), r1.grown hg (fun e => ?_), r2.grown hg (fun e => ?_)⟩ <;> (have := hr _ e.symm; omega)
theorem OverI.res (hJB : ∀ pre W W', J pre W → Below H W W' → J pre W') (hn : n₀ ≤ H) (h : OverI n kind J H D n₀ w see r pre A) (r' : Int) : OverI n kind J H D n₀ w see r' pre (A.setCell ⟨H + 2, 0, none⟩ (.int .i64 r')) := by
  obtain ⟨⟨g, j, b⟩, r0, r1, r2⟩ := h
  have hb : Below H A (A.setCell ⟨H + 2, 0, none⟩ (.int .i64 r')) := (Below.refl H A).setCell (p := ⟨H + 2, 0, none⟩) (by simp) _
  exact ⟨⟨g, hJB _ _ _ j hb, b.trans (hb.mono hn)⟩, r0.other (a := ⟨H + 2, 0, none⟩) (by simp) _, r1.other (a := ⟨H + 2, 0, none⟩) (by simp) _, r2.set 0 _⟩
theorem OverI.left (hJB : ∀ pre W W', J pre W → Below H W W' → J pre W') (hn : n₀ ≤ H) {W : World} (h : OverI n kind J H D n₀ w see r pre W) {y : Tick} {r' : Int} {N : Nat} (hy : code n kind y = r') (hr : r' ≠ 0) :
    KeepsFrom N W (W.setCell ⟨H + 2, 0, none⟩ (.int .i64 r')) ∧ OverX n kind J H D n₀ w see .ret (pre ++ [y]) (W.setCell ⟨H + 2, 0, none⟩ (.int .i64 r')) :=
  ⟨(KeepsOthers.setCell _ _ _).from _, rfl, pre, y, rfl, by rw [hy]; exact hr, by rw [hy]; exact h.res hJB hn r'⟩
theorem OverI.drewN (hJB : ∀ pre W W', J pre W → Below H W W' → J pre W') (h : OverI n kind J H D n₀ w see r pre A) (q : Nat) : OverI n kind J H D n₀ w see r pre (A.drewN q) := by
  obtain ⟨⟨g, j, b⟩, r0, r1, r2⟩ := h
  exact ⟨⟨g, hJB _ _ _ j (below_drewN (Below.refl H A) q), below_drewN b q⟩, r0, r1, r2⟩
theorem keeps_of_drewN {N q : Nat} {X : World} (h : KeepsFrom N (A.drewN q) X) : KeepsFrom N A X := ⟨h.size, h.same⟩
theorem OverI.goes (hJB : ∀ pre W W', J pre W → Below H W W' → J pre W') {W W' : World} (h : OverI n kind J H D n₀ w see r pre W) {x : E3} {N : Nat} (hc : code n kind (x, 0) = 0) (hj : J (pre.map (·.1) ++ [x]) W') (hk : KeepsFrom N W W')
    (ha : Above H W W') (hb : Below n₀ W W') : KeepsFrom N W W' ∧ Below n₀ W W' ∧ OverI n kind J H D n₀ w see r (pre ++ [(x, 0)]) W' := by
  obtain ⟨⟨g, j, b⟩, r0, r1, r2⟩ := h
  refine ⟨hk, hb, ⟨good_snoc g hc, by rw [List.map_append]; exact hj, b.trans hb⟩, ha.row r0 (Nat.le_refl _), ha.row r1 (by omega), ha.row r2 (by omega)⟩
theorem below_of_drewN {N q : Nat} {X : World} (h : Below N (A.drewN q) X) : Below N A X := (below_drewN (Below.refl N A) q).trans h
theorem OverX.kept (hJB : ∀ pre W W', J pre W → Below H W W' → J pre W') (hn : n₀ ≤ H) {c : Code} (h : OverX n kind J H D n₀ w see c pre A) {row : Option Nat} (hg : A.grownBy B row) (hr : ∀ k, row = some k → H + 3 ≤ k) : OverX n kind J H D n₀ w see c pre B := by
  obtain ⟨e, ini, y, hp, hc, hi⟩ := h
  exact ⟨e, ini, y, hp, hc, hi.kept hJB hn hg hr⟩
end

set_option maxRecDepth 100000 in
set_option maxHeartbeats 4000000 in
theorem over (n kind : Int) (hk : kind ≠ 3) (D b0 b1 n₀ : Nat) (l : List E3) (beh : Int) (hr : l.length * 12 ≤ 140737488351232) (k : FuncId) (caps : Array Value)
    (eg : ∀ (args : Array Value) (w : World), (callFunc k args).run Try.prog w = .ok (.enter k args) w) (J : List E3 → World → Prop) (w : World)
    (hF : FeedAt w n₀ b0 b1 l beh) (hn₀ : n₀ ≤ w.heap.size) (hE : w.cell? ⟨D, 2, none⟩ = some (feedVal b0 b1))
    (hJD : ∀ pre W, J pre W → W.cell? ⟨D, 0, none⟩ = some (.int .u32 n) ∧ W.cell? ⟨D, 1, none⟩ = some (.int .i64 kind))
    (hJB : ∀ pre W W', J pre W → Below w.heap.size W W' → J pre W')
    (hsee : ∀ pre x W, J pre W → wrong n kind x = 0 → w.heap.size ≤ W.heap.size →
      Calls Try.prog k (#[.agg #[.int .u32 x.s, .int .u32 x.d, .int .u32 x.x]] ++ caps) W fun e W' => e = .returned (.tuple #[]) ∧ J (pre ++ [x]) W' ∧ Below n₀ W W' ∧ Above w.heap.size W W')
    (h0 : J [] w) :
    Calls Try.prog 70 #[.pointer (some ⟨D, 0, none⟩), .func (.func k) #[] caps] w (OverPost n kind beh J n₀ w l) := by
  have hDlt : D < w.heap.size := block_lt_of_cell hE
  have hmix : Try.prog.follows .mixedOrders = true := by kernel_rfl
  refine callsIn_wide (n := 9) |>.1 (callsIn_of_wp_marks Try.func70 rfl trivial ?_ rfl); simp only [Try.ntmps70, List.size_toArray, List.length_cons, List.length_nil, Nat.reduceAdd, Nat.reduceSub, Array.replicate_succ, Array.replicate_zero, List.push_toArray, List.append_toArray, List.nil_append, List.cons_append]
  have R0 := Lib.hid (((Row.new w 107 #[.pointer (some ⟨D, 0, none⟩)]).alloc (.cells #[.func (.func k) #[] caps] 118)).alloc (.cells #[.int .i64 0] 22))
  have R1 := Lib.hid ((Row.at (Row.new (w.alloc (.cells #[.pointer (some ⟨D, 0, none⟩)] 107)) 118 #[.func (.func k) #[] caps]) (b' := w.heap.size + 1) (by simp)).alloc (.cells #[.int .i64 0] 22))
  have R2 := Lib.hid (Row.at (Row.new ((w.alloc (.cells #[.pointer (some ⟨D, 0, none⟩)] 107)).alloc (.cells #[.func (.func k) #[] caps] 118)) 22 #[.int .i64 0]) (b' := w.heap.size + 2) (by simp))
  have B0 := Lib.hid ((((Below.refl w.heap.size w).alloc (Nat.le_refl _) (.cells #[.pointer (some ⟨D, 0, none⟩)] 107)).alloc (by simp) (.cells #[.func (.func k) #[] caps] 118)).alloc (by simp; omega) (.cells #[.int .i64 0] 22))
  have hE' := (B0.out.cell (p := ⟨D, 2, none⟩) hDlt).trans hE
  gi_wp2
  obtain ⟨W0, hW0⟩ : ∃ W0, W0 = (((w.alloc (.cells #[.pointer (some ⟨D, 0, none⟩)] 107)).alloc (.cells #[.func (.func k) #[] caps] 118)).alloc (.cells #[.int .i64 0] 22)) := ⟨_, rfl⟩
  have hz : W0.heap.size = w.heap.size + 3 := by rw [hW0]; simp
  rw [← hW0] at R0 R1 R2 B0 ⊢
  clear hE' hW0
  refine wpIn_rangeFunc_ownH rfl (by decide) (gf := 63) (lb := #[.pointer (some ⟨b0, 0, none⟩), .pointer (some ⟨b1, 0, none⟩)]) rfl trivial (enters_of Try.func63 (by kernel_rfl) rfl)
    (feed_stops 8 (by decide) b0 b1 n₀ l beh hr W0 (hF.below (B0.out.mono hn₀)) (by omega)) belowK_t (belowK_b (by omega)) (Below.refl _ _) (fun _ => rfl)
    (OverI n kind J w.heap.size D n₀ w (.func (.func k) #[] caps) 0) (OverX n kind J w.heap.size D n₀ w (.func (.func k) #[] caps)) ?hI ?hIx ⟨⟨fun y hy => by simp at hy, hJB _ _ _ h0 B0.out, B0.out.mono hn₀⟩, R0.out, R1.out, R2.out⟩
    (fun y a' W => ∃ Bx, W0.heap.size ≤ Bx ∧ Row W Bx 36 #[.int .u32 y.1.s, .int .u32 y.1.d, .int .u32 y.1.x] ∧ a' = { tmps := #[.pointer (some ⟨D, 0, none⟩), .func (.func k) #[] caps, .pointer (some ⟨w.heap.size, 0, none⟩), .pointer (some ⟨w.heap.size + 1, 0, none⟩), .pointer (some ⟨w.heap.size + 1 + 1, 0, none⟩), .pointer (some ⟨Bx, 0, none⟩), .int .i64 y.2, .pointer (some ⟨D, 0, none⟩), .pointer (some ⟨D, 0, none⟩), .pointer (some ⟨D, 2, none⟩), feedVal b0 b1, .agg #[.int .u32 y.1.s, .int .u32 y.1.d, .int .u32 y.1.x], .int .i64 y.2, undef, undef, undef, undef, undef, undef, undef, undef, undef, undef, undef, undef, undef, undef, undef, undef, undef, undef, undef, undef, undef, undef, undef, undef, undef, undef, undef, undef, undef, undef], defers := [] })
    ?hAx ?assign ?body ?done ?stop
  case hI => exact fun s A B row hs hg hr => hs.kept hJB hn₀ hg (fun k e => by have := (hr k e).1; omega)
  case hIx => exact fun c s A B row hs hg hr => hs.kept hJB hn₀ hg (fun k e => by have := (hr k e).1; omega)
  case hAx =>
    rintro y a' u A B row ⟨Bx, hB, hx, rfl⟩ hg hr
    exact ⟨Bx, hB, hx.grown hg (fun e => by obtain ⟨_, o, ho, hc⟩ := hr _ e.symm; rw [show A.heap[Bx]? = _ from hx] at ho; cases ho; cases hc), rfl⟩
  case assign =>
    intro lp pre y W K hi hK
    have hs : w.heap.size + 3 ≤ W.heap.size := by have := hi.2.2.2.lt; omega
    unfold encs
    gi_wp2
    refine hK _ _ ((KeepsOthers.alloc _ _).from _) ((Below.refl n₀ W).alloc (by omega) _) (hi.kept hJB hn₀ (World.grownBy_alloc W _ none) (fun k e => by cases e)) ⟨W.heap.size, by omega, Row.new W _ _, rfl⟩
  case body =>
    rintro lp pre y a' W hl - hi ⟨Bx, hBx, hx, rfl⟩ -
    have HI := Lib.hid hi
    obtain ⟨⟨hg, hJ, hb⟩, r0, r1, r2⟩ := hi
    obtain ⟨hcn, hck⟩ := hJD _ _ hJ
    have hcd := r0.get (i := 0) rfl
    have hcs := r1.get (i := 0) rfl
    have hcr := r2.get (i := 0) rfl
    have hfr := r2.free 0
    have x0 := hx.get (i := 0) rfl
    have x1 := hx.get (i := 1) rfl
    have x2 := hx.get (i := 2) rfl
    clear hx r0 r1 r2 hg hJ hb
    by_cases hy : y.2 = 0
    · obtain ⟨x, z⟩ := y
      obtain rfl : z = 0 := hy
      have e1 : code n kind (x, 0) = wrong n kind x := by simp [code]
      by_cases g1 : n ≤ x.s
      · have d1 : decide (n ≤ x.s) = true := by simpa using g1
        have e2 := Lib.hid (e1.trans (show wrong n kind x = 91 by unfold wrong; rw [if_pos (.inl g1)]))
        clear e1
        gi_wp2
        refine K.region_lit_round (by kernel_rfl) (by kernel_rfl) (by kernel_rfl) ?_
        repeat (any_goals (first | go_big_quiet_step (fail) | quiet_step (fail)))
        refine wpQuiet_nil ?_
        intro _ hw'
        obtain ⟨nq, rfl⟩ := hw'
        gi_wp2
        obtain ⟨k1, k2⟩ := (HI.out.drewN hJB nq).left (N := W0.heap.size) hJB hn₀ e2.out (by decide)
        exact ⟨keeps_of_drewN k1, k2⟩
      have d1 : decide (n ≤ x.s) = false := by simpa using g1
      by_cases g2 : n ≤ x.d
      · have d2 : decide (n ≤ x.d) = true := by simpa using g2
        have e2 := Lib.hid (e1.trans (show wrong n kind x = 91 by unfold wrong; rw [if_pos (.inr g2)]))
        clear e1
        gi_wp2
        refine K.region_lit_round (by kernel_rfl) (by kernel_rfl) (by kernel_rfl) ?_
        repeat (any_goals (first | go_big_quiet_step (fail) | quiet_step (fail)))
        refine wpQuiet_nil ?_
        intro _ hw'
        obtain ⟨nq, rfl⟩ := hw'
        gi_wp2
        obtain ⟨k1, k2⟩ := (HI.out.drewN hJB nq).left (N := W0.heap.size) hJB hn₀ e2.out (by decide)
        exact ⟨keeps_of_drewN k1, k2⟩
      have d2 : decide (n ≤ x.d) = false := by simpa using g2
      have hwr : wrong n kind x = if kind = 1 ∧ x.x ≠ 0 then 95 else 0 := by unfold wrong; rw [if_neg (by omega)]
      by_cases g3 : kind = 1 ∧ x.x ≠ 0
      · have e2 := Lib.hid (e1.trans (hwr.trans (if_pos g3)))
        have e3 : (!decide (kind = 1 ∧ x.x ≠ 0)) = false := by simp [g3]
        have hw := fun W hc => weighs D n kind x.x hk W hc
        rw [e3] at hw
        clear e1 hwr e3 g3
        gi_wp2
        refine K.region_lit_round (by kernel_rfl) (by kernel_rfl) (by kernel_rfl) ?_
        repeat (any_goals (first | go_big_quiet_step (fail) | quiet_step (fail)))
        refine wpQuiet_nil ?_
        intro _ hw'
        obtain ⟨nq, rfl⟩ := hw'
        gi_wp2_with fail
        refine ⟨trivial, (CallsIn.inRound lp (callsIn_wide.2 (hw (W.drewN nq) hck))).mono ?_⟩
        rintro e w' ⟨rfl, rfl⟩
        gi_wp2
        obtain ⟨k1, k2⟩ := (HI.out.drewN hJB nq).left (N := W0.heap.size) hJB hn₀ e2.out (by decide)
        exact ⟨keeps_of_drewN k1, k2⟩
      · have e2 := Lib.hid (e1.trans (hwr.trans (if_neg g3)))
        have e3 : (!decide (kind = 1 ∧ x.x ≠ 0)) = true := by simp [g3]
        have hw := fun W hc => weighs D n kind x.x hk W hc
        rw [e3] at hw
        have HS := Lib.hid (fun W' => hsee (pre.map (·.1)) x W')
        have HJ := Lib.hid (HI.out.1.2.1)
        have e4 := Lib.hid (hwr.trans (if_neg g3))
        clear e1 hwr e3 g3
        gi_wp2
        refine K.region_lit_round (by kernel_rfl) (by kernel_rfl) (by kernel_rfl) ?_
        repeat (any_goals (first | go_big_quiet_step (fail) | quiet_step (fail)))
        refine wpQuiet_nil ?_
        intro _ hw'
        obtain ⟨nq, rfl⟩ := hw'
        gi_wp2_with fail
        refine ⟨trivial, (CallsIn.inRound lp (callsIn_wide.2 (hw (W.drewN nq) hck))).mono ?_⟩
        rintro e w' ⟨rfl, rfl⟩
        gi_wp2_with fail
        refine ⟨trivial, (CallsIn.inRound lp (callsIn_wide.2 (HS.out (W.drewN nq) (HI.out.drewN hJB nq).1.2.1 e4.out (by have := (HI.out.drewN hJB nq).2.2.2.lt; omega)))).mono ?_⟩
        rintro e w' ⟨rfl, hj', hb', ha'⟩
        have hj2 := Lib.hid hj'
        clear hj'
        gi_wp2
        exact HI.out.goes hJB e2.out hj2.out (keeps_of_drewN (ha'.from (by omega))) ⟨ha'.size, ha'.same⟩ (below_of_drewN hb')
    · have h1 : (y.2 == 0) = false := by simpa using hy
      have h2 : (y.2 != 0) = true := by simpa using hy
      have e2 := Lib.hid (show code n kind y = y.2 by unfold code; rw [if_neg hy])
      have e3 := Lib.hid hy
      clear hy
      gi_wp2
      exact HI.out.left hJB hn₀ e2.out e3.out
  case done =>
    rintro Dd xs W hDd rfl ⟨⟨hg, hJ, hb⟩, r0, r1, r2⟩ hKd
    obtain ⟨h1, h2, h3⟩ := told_all hg
    have hcr := r2.get (i := 0) rfl
    have hfr := r2.free 0
    rw [h3] at hJ
    have HJ := Lib.hid hJ
    have R2' := Lib.hid r2
    have h4 := Lib.hid (oerr_good (beh := beh) h2)
    have h5 := Lib.hid h1
    have HB := Lib.hid hb
    clear hJ hg r0 r1 r2 h3 h1 h2 hb
    gi_wp2
    have hK' := (KeepsOthers.setCell W ⟨w.heap.size + 1 + 1, 0, none⟩ (.int .i64 0)).same Dd _ hKd rfl
    have hr' := (R2'.out.set 0 (.int .i64 0)).grown (grownBy_putObj' _ Dd (.deferred none)) (fun e => by cases e; rw [R2'.out.set 0 (.int .i64 0)] at hK'; cases hK')
    have hX : Below w.heap.size W ((W.setCell ⟨w.heap.size + 1 + 1, 0, none⟩ (.int .i64 0)).putObj Dd (.deferred none)) :=
      ((Below.refl w.heap.size W).setCell (p := ⟨w.heap.size + 1 + 1, 0, none⟩) (by simp; omega) _).grown (grownBy_putObj' _ Dd (.deferred none)) (by have := R2'.out.lt; simp; omega) (fun k e => by cases e; omega)
    refine ⟨by simp, .inl ⟨_, _, rfl, run_takeDeferred hK', ?_⟩⟩
    have hc5 := hr'.get (i := 0) rfl
    refine ⟨.int .i64 0, by simp [results, Try.f70, go_sem, hc5], by rw [h4.out, h5.out], ⟨l, List.prefix_refl _, fun _ => rfl, ?_⟩, ?_⟩
    · exact hJB _ _ _ HJ.out hX
    · exact HB.out.trans (hX.mono hn₀)
  case stop =>
    rintro Dd c xs W hDd hp ⟨rfl, ini, y, rfl, hc, ⟨hg, hJ, hb⟩, r0, r1, r2⟩ hKd
    obtain ⟨h1, h2⟩ := told_stop hp hg hc
    have hr' := r2.grown (grownBy_putObj' _ Dd (.deferred none)) (fun e => by cases e; rw [show W.heap[w.heap.size + 2]? = _ from r2] at hKd; cases hKd)
    have hX : Below w.heap.size W (W.putObj Dd (.deferred none)) := (Below.refl w.heap.size W).grown (grownBy_putObj' _ Dd (.deferred none)) (by have := r2.lt; omega) (fun k e => by cases e; omega)
    have HR := Lib.hid (r2.get (i := 0) rfl)
    have HP : OverPost n kind beh J n₀ w l (.returned (.int .i64 (code n kind y))) (W.putObj Dd (.deferred none)) :=
      ⟨by rw [h1], ⟨_, h2, fun h => absurd (h1.symm.trans h) hc, hJB _ _ _ hJ hX⟩, hb.trans (hX.mono hn₀)⟩
    have HQ := Lib.hid HP
    have hc5 := Lib.hid (hr'.get (i := 0) rfl)
    clear h1 h2 hr' hX HP hJ hb hg hc r0 r1 r2 hp
    gi_wp2
    refine ⟨by simp, .inl ⟨_, _, rfl, run_takeDeferred hKd, ?_⟩⟩
    have hc6 := hc5.out
    exact ⟨.int .i64 (code n kind y), by simp [results, Try.f70, go_sem, hc6], HQ.out⟩
end Go.Proofs.Ytepljdnhnnpdmaa.Desk
