/-
  The iterator over edges and the audits' walk over them once more, for a body that may turn blocks below the iterator's own. No condition.
-/
import Derived.Test.YtepljdnhnnpdmaaDesk
set_option linter.unusedVariables false
set_option linter.unusedSimpArgs false
namespace Go.Proofs.Ytepljdnhnnpdmaa.Desk
open Go.RowKit Go.Shelf K Feed
attribute [local go_sem] Oper.semAt_some

/-- The blocks from lo to hi lie as they lay. -/
structure Stay (lo hi : Nat) (W W' : World) : Prop where
  size : W.heap.size ≤ W'.heap.size
  same : ∀ k, lo ≤ k → k < hi → W'.heap[k]? = W.heap[k]?
section
variable {lo hi : Nat} {A B C W W' : World}
theorem Stay.refl (lo hi : Nat) (W : World) : Stay lo hi W W := ⟨Nat.le_refl _, fun _ _ _ => rfl⟩
theorem Stay.trans (h : Stay lo hi A B) (k : Stay lo hi B C) : Stay lo hi A C := ⟨Nat.le_trans h.size k.size, fun i h1 h2 => (k.same i h1 h2).trans (h.same i h1 h2)⟩
theorem Stay.alloc (h : hi ≤ B.heap.size) (o : Obj) : Stay lo hi B (B.alloc o) := ⟨by simp, fun k _ hk => Below.heap_alloc B o k (by omega)⟩
theorem Stay.setCell {p : Addr} (hp : hi ≤ p.block) (v : Value) : Stay lo hi B (B.setCell p v) := ⟨by simp, fun k _ hk => heap_setCell_other B p k v (by omega)⟩
theorem Stay.putObj {l : Nat} (hl : hi ≤ l) (o : Obj) : Stay lo hi B (B.putObj l o) := ⟨by simp, fun k _ hk => World.putObj_heap_other (by omega)⟩
theorem Stay.of_turns {S : Nat → Prop} (h : Turns S A B) (hi' : hi ≤ A.heap.size) (hs : ∀ k, lo ≤ k → k < hi → ¬ S k) : Stay lo hi A B := ⟨h.size, fun k h1 h2 => h.block k (by omega) (hs k h1 h2)⟩
theorem stay_of_drewN {q : Nat} (h : Stay lo hi (A.drewN q) B) : Stay lo hi A B := ⟨h.size, h.same⟩
end
theorem feedBox {lo hi b0 b1 : Nat} {l : List E3} {beh : Int} {W wr : World} {A A' : Option Addr} {cap cap' : Nat} (hF : FeedFrom lo W hi b0 b1 l beh) (hs : Stay lo hi W wr) (hn : hi ≤ W.heap.size)
    (hc : W.cell? ⟨b0, 0, none⟩ = some (.slice A l.length cap)) (hc' : wr.cell? ⟨b0, 0, none⟩ = some (.slice A' l.length cap')) : A' = A ∧ cap' = cap := by
  have hlo : lo ≤ b0 := by
    rcases Nat.lt_or_ge b0 lo with g | g
    · exfalso
      -- a world in which block b0 is gone, and the blocks from lo on are as they were
      have h1 := hF (W.putObj b0 (.deferred none)) (fun k h1 h2 => World.putObj_heap_other (by omega))
      obtain ⟨_, _, ⟨_, _, h2, _⟩, _⟩ := h1
      have hb : b0 < W.heap.size := Nat.lt_of_lt_of_le (hF W (fun _ _ _ => rfl)).lt0 hn
      unfold World.cell? at h2
      rw [World.putObj_heap_same hb] at h2
      cases h2
    · exact g
  have hlt := (hF W (fun _ _ _ => rfl)).lt0
  have e : wr.cell? ⟨b0, 0, none⟩ = W.cell? ⟨b0, 0, none⟩ := by
    unfold World.cell?
    simp only
    rw [hs.same b0 hlo hlt]
  rw [e, hc] at hc'
  obtain ⟨h1, -, h3⟩ := Value.slice.inj (Option.some.inj hc')
  exact ⟨h1.symm, h3.symm⟩
def RelIt (n : Nat) (W : World) (l : List E3) (J : List Tick → World → Prop) (lo hi : Nat) (i : Value) (wr : World) : Prop :=
  ∃ k : Nat, k ≤ n ∧ i = .int .i64 k ∧ J ((l.take k).map (fun x => (x, 0))) wr ∧ Stay lo hi W wr
set_option maxRecDepth 100000 in
set_option maxHeartbeats 2000000 in
theorem feed1s (m : Nat) (hm : 1 ≤ m) (lp b0 b1 lo hi : Nat) (l : List E3) (beh : Int) (hr : l.length * 12 ≤ 140737488351232) (J Jx : List Tick → World → Prop)
    (hY : ∀ pre x W, J pre W → pre.length < (told l beh).length → YieldAt Fence.wide (m - 1) Try.prog lp (encs x) W fun e W' =>
      (e = .returned (.bool true) ∧ J (pre ++ [x]) W' ∧ Stay lo hi W W') ∨ (e = .returned (.bool false) ∧ Jx (pre ++ [x]) W'))
    (hJa : ∀ pre (W : World) (o : Obj), J pre W → J pre (W.alloc o))
    (W : World) (hF : FeedFrom lo W hi b0 b1 l beh) (hn₀ : hi ≤ W.heap.size) (h0 : J [] W) :
    CallsIn Fence.wide m Try.prog 63 #[.func (.yield lp) #[] #[], .pointer (some ⟨b0, 0, none⟩), .pointer (some ⟨b1, 0, none⟩)] W (ItPost l beh J Jx) := by
  have HF := Lib.hid hF
  obtain ⟨g0, g1, ⟨A, cap, hc, hl⟩, hb⟩ := hF W (fun _ _ _ => rfl)
  clear hF hl
  refine callsIn_of_wp Try.func63 rfl trivial ?_ rfl; simp only [Try.ntmps63, List.size_toArray, List.length_cons, List.length_nil, Nat.reduceAdd, Nat.reduceSub, Array.replicate_succ, Array.replicate_zero, List.push_toArray, List.append_toArray, List.nil_append, List.cons_append]
  gi_wp2
  gi_loopw [8] (fun i wr => RelIt l.length W l J lo hi i wr) (fun i _ => l.length - (intOf i).toNat)
  case atStart => exact ⟨0, Nat.zero_le _, rfl, h0, Stay.refl _ _ _⟩
  case round =>
    obtain ⟨k, hk, rfl, hJs, hnx⟩ := hrel
    obtain ⟨-, -, ⟨A', cap', hc', hl'⟩, hb'⟩ := HF.out wr hnx.same
    obtain ⟨eA, eC⟩ : A' = A ∧ cap' = cap := by
      have h1 := (HF.out W (fun _ _ _ => rfl)).lt0
      have h2 := feedBox HF.out hnx hn₀ hc hc'
      exact h2
    subst eA eC
    rcases Nat.lt_or_ge k l.length with hlt | hge
    · obtain ⟨x, hx⟩ : ∃ x, l[k]? = some x := ⟨_, List.getElem?_eq_getElem hlt⟩
      obtain ⟨b, off, rfl, hB, c0, c1, c2⟩ := hl'.edge hx
      have hJ1 := hJa _ wr (.cells #[.int .u32 x.s, .int .u32 x.d, .int .u32 x.x] 36) hJs
      obtain ⟨fn, tmps, assign, body, hy, hR⟩ := hY _ (x, 0) _ hJ1 (by have := told_length l beh; simp; omega)
      have HX := Lib.hid hx
      clear hx hJs hJ1
      unfold encs at hy
      dsimp only at hy
      have hkb : decide ((k : Int) < (l.length : Int)) = true := by simp; omega
      gi_wp2
      refine hR.mono ?_
      rintro e W3 (⟨rfl, hJ3, hk3⟩ | ⟨rfl, hJx3⟩)
      · gi_wp2
        go_roundw
        case rel => exact ⟨k + 1, by omega, by go_num, by rw [told_succ HX.out]; exact hJ3, (hnx.trans (Stay.alloc (Nat.le_trans hn₀ hnx.size) _)).trans hk3⟩
        case measure => simp [intOf]; omega
      · gi_wp2
        refine bodyPost_ret (results_none rfl _ _ _) rfl ?_
        exact ⟨⟨_, rfl⟩, .inr ⟨_, by rw [← told_succ HX.out]; exact told_pre l beh (k + 1), hJx3⟩⟩
    · obtain rfl : k = l.length := by omega
      rw [List.take_length] at hJs
      have hkb : decide ((l.length : Int) < (l.length : Int)) = false := by simp
      by_cases h0 : beh = 0
      · subst h0
        gi_wp2
        go_end0
        exact ⟨⟨_, rfl⟩, .inl ⟨_, rfl, by simpa [told] using hJs⟩⟩
      · have hne : (beh == 0) = false := by simpa using h0
        have hne' : (beh != 0) = true := by simpa using h0
        obtain ⟨fn, tmps, assign, body, hy, hR⟩ := hY _ (E3.zero, beh) _ hJs (by simp [told, h0])
        unfold encs E3.zero at hy
        dsimp only at hy
        gi_wp2
        refine hR.mono ?_
        have ht : told l beh = l.map (fun x => ((x, 0) : Tick)) ++ [(E3.zero, beh)] := by simp [told, h0]
        rintro e W3 (⟨rfl, hJ3, hk3⟩ | ⟨rfl, hJx3⟩)
        · gi_wp2
          go_end0
          exact ⟨⟨_, rfl⟩, .inl ⟨_, rfl, by rw [ht]; exact hJ3⟩⟩
        · gi_wp2
          go_end0
          exact ⟨⟨_, rfl⟩, .inr ⟨_, by rw [ht]; exact List.prefix_refl _, hJx3⟩⟩
theorem feed_stops_s (m : Nat) (hm : 1 ≤ m) (b0 b1 lo hi : Nat) (l : List E3) (beh : Int) (hr : l.length * 12 ≤ 140737488351232) (w : World) (hF : FeedFrom lo w hi b0 b1 l beh) (hn₀ : hi ≤ w.heap.size) :
    SeqStopsK Fence.wide m Try.prog 63 #[.pointer (some ⟨b0, 0, none⟩), .pointer (some ⟨b1, 0, none⟩)] encs (Stay lo hi) (fun ys => ys = told l beh) (fun pre => pre <+: told l beh) (told l beh).length w := fun lp J Jx W hW hJ _ hY h0 =>
  feed1s m hm lp b0 b1 lo hi l beh hr J Jx hY (fun pre A o hs => hJ pre A _ none hs (World.grownBy_alloc A o none) (fun r e => by cases e)) W
    (fun W' h => hF W' fun k h1 h2 => (h k h1 h2).trans (hW.block k (by omega))) (Nat.le_trans hn₀ hW.size) h0
def OverIs (n kind : Int) (J : List E3 → World → Prop) (H D : Nat) (lo hi : Nat) (w : World) (see : Value) (r : Int) (pre : List Tick) (W : World) : Prop :=
  (Good n kind pre ∧ J (pre.map (·.1)) W ∧ Stay lo hi w W) ∧ Row W H 107 #[.pointer (some ⟨D, 0, none⟩)] ∧ Row W (H + 1) 118 #[see] ∧ Row W (H + 2) 22 #[.int .i64 r]
def OverXs (n kind : Int) (J : List E3 → World → Prop) (H D : Nat) (lo hi : Nat) (w : World) (see : Value) (c : Code) (pre : List Tick) (W : World) : Prop :=
  c = .ret ∧ ∃ ini y, pre = ini ++ [y] ∧ code n kind y ≠ 0 ∧ OverIs n kind J H D lo hi w see (code n kind y) ini W
def OverPosts (n kind beh : Int) (J : List E3 → World → Prop) (l : List E3) (e : Ending) (W : World) : Prop :=
  e = .returned (.int .i64 (oerr n kind beh l)) ∧ (∃ pre, pre <+: l ∧ (oerr n kind beh l = 0 → pre = l) ∧ J pre W)

section
variable {n kind : Int} {J : List E3 → World → Prop} {H D lo hi : Nat} {w A B : World} {see : Value} {r : Int} {pre : List Tick}
theorem OverIs.kept (hJB : ∀ pre W W', J pre W → Below H W W' → J pre W') (hn : hi ≤ H) (h : OverIs n kind J H D lo hi w see r pre A) {row : Option Nat} (hg : A.grownBy B row) (hr : ∀ k, row = some k → H + 3 ≤ k) : OverIs n kind J H D lo hi w see r pre B := by
  obtain ⟨⟨g, j, b⟩, r0, r1, r2⟩ := h
  have hlt := r2.lt
  have hb : Below H A B := (Below.refl H A).grown hg (by omega) (fun k e => by have := hr k e; omega)
  refine ⟨⟨g, hJB _ _ _ j hb, b.trans ⟨hg.size, fun k _ hk => hg.block k (by omega) (fun e => by have := hr k e.symm; omega)⟩⟩, r0.grown hg (fun e => ?_), r1.grown hg (fun e => ?_), r2.grown hg (fun e => ?_)⟩ <;> (have := hr _ e.symm; omega)
theorem OverIs.res (hJB : ∀ pre W W', J pre W → Below H W W' → J pre W') (hn : hi ≤ H) (h : OverIs n kind J H D lo hi w see r pre A) (r' : Int) : OverIs n kind J H D lo hi w see r' pre (A.setCell ⟨H + 2, 0, none⟩ (.int .i64 r')) := by
  obtain ⟨⟨g, j, b⟩, r0, r1, r2⟩ := h
  have hb : Below H A (A.setCell ⟨H + 2, 0, none⟩ (.int .i64 r')) := (Below.refl H A).setCell (p := ⟨H + 2, 0, none⟩) (by simp) _
  exact ⟨⟨g, hJB _ _ _ j hb, b.trans (Stay.setCell (by show hi ≤ H + 2; omega) _)⟩, r0.other (a := ⟨H + 2, 0, none⟩) (by simp) _, r1.other (a := ⟨H + 2, 0, none⟩) (by simp) _, r2.set 0 _⟩
theorem OverIs.left (hJB : ∀ pre W W', J pre W → Below H W W' → J pre W') (hn : hi ≤ H) {W : World} (h : OverIs n kind J H D lo hi w see r pre W) {y : Tick} {r' : Int} {N : Nat} (hy : code n kind y = r') (hr : r' ≠ 0) :
    KeepsFrom N W (W.setCell ⟨H + 2, 0, none⟩ (.int .i64 r')) ∧ OverXs n kind J H D lo hi w see .ret (pre ++ [y]) (W.setCell ⟨H + 2, 0, none⟩ (.int .i64 r')) :=
  ⟨(KeepsOthers.setCell _ _ _).from _, rfl, pre, y, rfl, by rw [hy]; exact hr, by rw [hy]; exact h.res hJB hn r'⟩
theorem OverIs.drewN (hJB : ∀ pre W W', J pre W → Below H W W' → J pre W') (h : OverIs n kind J H D lo hi w see r pre A) (q : Nat) : OverIs n kind J H D lo hi w see r pre (A.drewN q) := by
  obtain ⟨⟨g, j, b⟩, r0, r1, r2⟩ := h
  exact ⟨⟨g, hJB _ _ _ j (below_drewN (Below.refl H A) q), ⟨b.size, b.same⟩⟩, r0, r1, r2⟩
theorem OverIs.goes (hJB : ∀ pre W W', J pre W → Below H W W' → J pre W') {W W' : World} (h : OverIs n kind J H D lo hi w see r pre W) {x : E3} {N : Nat} (hc : code n kind (x, 0) = 0) (hj : J (pre.map (·.1) ++ [x]) W') (hk : KeepsFrom N W W')
    (ha : Above H W W') (hb : Stay lo hi W W') : KeepsFrom N W W' ∧ Stay lo hi W W' ∧ OverIs n kind J H D lo hi w see r (pre ++ [(x, 0)]) W' := by
  obtain ⟨⟨g, j, b⟩, r0, r1, r2⟩ := h
  refine ⟨hk, hb, ⟨good_snoc g hc, by rw [List.map_append]; exact hj, b.trans hb⟩, ha.row r0 (Nat.le_refl _), ha.row r1 (by omega), ha.row r2 (by omega)⟩
theorem OverXs.kept (hJB : ∀ pre W W', J pre W → Below H W W' → J pre W') (hn : hi ≤ H) {c : Code} (h : OverXs n kind J H D lo hi w see c pre A) {row : Option Nat} (hg : A.grownBy B row) (hr : ∀ k, row = some k → H + 3 ≤ k) : OverXs n kind J H D lo hi w see c pre B := by
  obtain ⟨e, ini, y, hp, hc, hi⟩ := h
  exact ⟨e, ini, y, hp, hc, hi.kept hJB hn hg hr⟩
end

set_option maxRecDepth 100000 in
set_option maxHeartbeats 4000000 in
theorem over2 (n kind : Int) (hk : kind ≠ 3) (D b0 b1 lo hi : Nat) (l : List E3) (beh : Int) (hr : l.length * 12 ≤ 140737488351232) (k : FuncId) (caps : Array Value)
    (eg : ∀ (args : Array Value) (w : World), (callFunc k args).run Try.prog w = .ok (.enter k args) w) (J : List E3 → World → Prop) (w : World)
    (hF : FeedFrom lo w hi b0 b1 l beh) (hn₀ : hi ≤ w.heap.size) (hE : w.cell? ⟨D, 2, none⟩ = some (feedVal b0 b1))
    (hJD : ∀ pre W, J pre W → W.cell? ⟨D, 0, none⟩ = some (.int .u32 n) ∧ W.cell? ⟨D, 1, none⟩ = some (.int .i64 kind))
    (hJB : ∀ pre W W', J pre W → Below w.heap.size W W' → J pre W')
    (hsee : ∀ pre x W, J pre W → wrong n kind x = 0 → w.heap.size ≤ W.heap.size → pre.length ≤ l.length →
      Calls Try.prog k (#[.agg #[.int .u32 x.s, .int .u32 x.d, .int .u32 x.x]] ++ caps) W fun e W' => e = .returned (.tuple #[]) ∧ J (pre ++ [x]) W' ∧ Stay lo hi W W' ∧ Above w.heap.size W W')
    (h0 : J [] w) :
    Calls Try.prog 70 #[.pointer (some ⟨D, 0, none⟩), .func (.func k) #[] caps] w (OverPosts n kind beh J l) := by
  have hDlt : D < w.heap.size := block_lt_of_cell hE
  have hmix : Try.prog.follows .mixedOrders = true := by kernel_rfl
  refine callsIn_wide (n := 9) |>.1 (callsIn_of_wp_marks Try.func70 rfl trivial ?_ rfl); simp only [Try.ntmps70, List.size_toArray, List.length_cons, List.length_nil, Nat.reduceAdd, Nat.reduceSub, Array.replicate_succ, Array.replicate_zero, List.push_toArray, List.append_toArray, List.nil_append, List.cons_append]
  have R0 := Lib.hid (((Row.new w 107 #[.pointer (some ⟨D, 0, none⟩)]).alloc (.cells #[.func (.func k) #[] caps] 118)).alloc (.cells #[.int .i64 0] 22))
  have R1 := Lib.hid ((Row.at (Row.new (w.alloc (.cells #[.pointer (some ⟨D, 0, none⟩)] 107)) 118 #[.func (.func k) #[] caps]) (b' := w.heap.size + 1) (by simp)).alloc (.cells #[.int .i64 0] 22))
  have R2 := Lib.hid (Row.at (Row.new ((w.alloc (.cells #[.pointer (some ⟨D, 0, none⟩)] 107)).alloc (.cells #[.func (.func k) #[] caps] 118)) 22 #[.int .i64 0]) (b' := w.heap.size + 2) (by simp))
  have B0 := Lib.hid ((((Below.refl w.heap.size w).alloc (Nat.le_refl _) (.cells #[.pointer (some ⟨D, 0, none⟩)] 107)).alloc (by simp) (.cells #[.func (.func k) #[] caps] 118)).alloc (by simp; omega) (.cells #[.int .i64 0] 22))
  have hE' := (B0.out.cell (p := ⟨D, 2, none⟩) hDlt).trans hE
  gi_wp2
  obtain ⟨W0, hW0⟩ : ∃ W0, W0 = (((w.alloc (.cells #[.pointer (some ⟨D, 0, none⟩)] 107)).alloc (.cells #[.func (.func k) #[] caps] 118)).alloc (.cells #[.int .i64 0] 22)) := ⟨_, rfl⟩
  have hz : W0.heap.size = w.heap.size + 3 := by rw [hW0]; simp
  rw [← hW0] at R0 R1 R2 B0 ⊢
  clear hE' hW0
  refine wpIn_rangeFunc_ownH rfl (by decide) (gf := 63) (lb := #[.pointer (some ⟨b0, 0, none⟩), .pointer (some ⟨b1, 0, none⟩)]) rfl trivial (enters_of Try.func63 (by kernel_rfl) rfl)
    (feed_stops_s 8 (by decide) b0 b1 lo hi l beh hr W0 (fun W' h => hF W' fun k h1 h2 => (h k h1 h2).trans (B0.out.block k (by omega))) (by omega)) (fun h k => h.trans k) (fun W l' o o' h1 _ _ _ => Stay.putObj (by omega) _) (Below.refl _ _) (fun _ => rfl)
    (OverIs n kind J w.heap.size D lo hi w (.func (.func k) #[] caps) 0) (OverXs n kind J w.heap.size D lo hi w (.func (.func k) #[] caps)) ?hI ?hIx ⟨⟨fun y hy => by simp at hy, hJB _ _ _ h0 B0.out, ⟨B0.out.size, fun k _ hk => B0.out.block k (by omega)⟩⟩, R0.out, R1.out, R2.out⟩
    (fun y a' W => ∃ Bx, W0.heap.size ≤ Bx ∧ Row W Bx 36 #[.int .u32 y.1.s, .int .u32 y.1.d, .int .u32 y.1.x] ∧ a' = { tmps := #[.pointer (some ⟨D, 0, none⟩), .func (.func k) #[] caps, .pointer (some ⟨w.heap.size, 0, none⟩), .pointer (some ⟨w.heap.size + 1, 0, none⟩), .pointer (some ⟨w.heap.size + 1 + 1, 0, none⟩), .pointer (some ⟨Bx, 0, none⟩), .int .i64 y.2, .pointer (some ⟨D, 0, none⟩), .pointer (some ⟨D, 0, none⟩), .pointer (some ⟨D, 2, none⟩), feedVal b0 b1, .agg #[.int .u32 y.1.s, .int .u32 y.1.d, .int .u32 y.1.x], .int .i64 y.2, undef, undef, undef, undef, undef, undef, undef, undef, undef, undef, undef, undef, undef, undef, undef, undef, undef, undef, undef, undef, undef, undef, undef, undef, undef, undef, undef, undef, undef, undef], defers := [] })
    ?hAx ?assign ?body ?done ?stop
  case hI => exact fun s A B row hs hg hr => hs.kept hJB hn₀ hg (fun k e => by have := (hr k e).1; omega)
  case hIx => exact fun c s A B row hs hg hr => hs.kept hJB hn₀ hg (fun k e => by have := (hr k e).1; omega)
  case hAx =>
    rintro y a' u A B row ⟨Bx, hB, hx, rfl⟩ hg hr
    exact ⟨Bx, hB, hx.grown hg (fun e => by obtain ⟨_, o, ho, hc⟩ := hr _ e.symm; rw [show A.heap[Bx]? = _ from hx] at ho; cases ho; cases hc), rfl⟩
  case assign =>
    intro lp pre y W K hi hK
    have hs : w.heap.size + 3 ≤ W.heap.size := by have := hi.2.2.2.lt; omega
    unfold encs
    gi_wp2
    refine hK _ _ ((KeepsOthers.alloc _ _).from _) (Stay.alloc (by omega) _) (hi.kept hJB hn₀ (World.grownBy_alloc W _ none) (fun k e => by cases e)) ⟨W.heap.size, by omega, Row.new W _ _, rfl⟩
  case body =>
    rintro lp pre y a' W hl - hi ⟨Bx, hBx, hx, rfl⟩ hpn
    have HPN := Lib.hid (show (pre.map (·.1)).length ≤ l.length by
      have h2 : (told l beh).length ≤ l.length + 1 := by unfold told; split <;> simp
      rw [List.length_map]; omega)
    clear hpn
    have HI := Lib.hid hi
    obtain ⟨⟨hg, hJ, hb⟩, r0, r1, r2⟩ := hi
    obtain ⟨hcn, hck⟩ := hJD _ _ hJ
    have hcd := r0.get (i := 0) rfl
    have hcs := r1.get (i := 0) rfl
    have hcr := r2.get (i := 0) rfl
    have hfr := r2.free 0
    have x0 := hx.get (i := 0) rfl
    have x1 := hx.get (i := 1) rfl
    have x2 := hx.get (i := 2) rfl
    clear hx r0 r1 r2 hg hJ hb
    by_cases hy : y.2 = 0
    · obtain ⟨x, z⟩ := y
      obtain rfl : z = 0 := hy
      have e1 : code n kind (x, 0) = wrong n kind x := by simp [code]
      by_cases g1 : n ≤ x.s
      · have d1 : decide (n ≤ x.s) = true := by simpa using g1
        have e2 := Lib.hid (e1.trans (show wrong n kind x = 91 by unfold wrong; rw [if_pos (.inl g1)]))
        clear e1
        gi_wp2
        refine K.region_lit_round (by kernel_rfl) (by kernel_rfl) (by kernel_rfl) ?_
        repeat (any_goals (first | go_big_quiet_step (fail) | quiet_step (fail)))
        refine wpQuiet_nil ?_
        intro _ hw'
        obtain ⟨nq, rfl⟩ := hw'
        gi_wp2
        obtain ⟨k1, k2⟩ := (HI.out.drewN hJB nq).left (N := W0.heap.size) hJB hn₀ e2.out (by decide)
        exact ⟨keeps_of_drewN k1, k2⟩
      have d1 : decide (n ≤ x.s) = false := by simpa using g1
      by_cases g2 : n ≤ x.d
      · have d2 : decide (n ≤ x.d) = true := by simpa using g2
        have e2 := Lib.hid (e1.trans (show wrong n kind x = 91 by unfold wrong; rw [if_pos (.inr g2)]))
        clear e1
        gi_wp2
        refine K.region_lit_round (by kernel_rfl) (by kernel_rfl) (by kernel_rfl) ?_
        repeat (any_goals (first | go_big_quiet_step (fail) | quiet_step (fail)))
        refine wpQuiet_nil ?_
        intro _ hw'
        obtain ⟨nq, rfl⟩ := hw'
        gi_wp2
        obtain ⟨k1, k2⟩ := (HI.out.drewN hJB nq).left (N := W0.heap.size) hJB hn₀ e2.out (by decide)
        exact ⟨keeps_of_drewN k1, k2⟩
      have d2 : decide (n ≤ x.d) = false := by simpa using g2
      have hwr : wrong n kind x = if kind = 1 ∧ x.x ≠ 0 then 95 else 0 := by unfold wrong; rw [if_neg (by omega)]
      by_cases g3 : kind = 1 ∧ x.x ≠ 0
      · have e2 := Lib.hid (e1.trans (hwr.trans (if_pos g3)))
        have e3 : (!decide (kind = 1 ∧ x.x ≠ 0)) = false := by simp [g3]
        have hw := fun W hc => weighs D n kind x.x hk W hc
        rw [e3] at hw
        clear e1 hwr e3 g3
        gi_wp2
        refine K.region_lit_round (by kernel_rfl) (by kernel_rfl) (by kernel_rfl) ?_
        repeat (any_goals (first | go_big_quiet_step (fail) | quiet_step (fail)))
        refine wpQuiet_nil ?_
        intro _ hw'
        obtain ⟨nq, rfl⟩ := hw'
        gi_wp2_with fail
        refine ⟨trivial, (CallsIn.inRound lp (callsIn_wide.2 (hw (W.drewN nq) hck))).mono ?_⟩
        rintro e w' ⟨rfl, rfl⟩
        gi_wp2
        obtain ⟨k1, k2⟩ := (HI.out.drewN hJB nq).left (N := W0.heap.size) hJB hn₀ e2.out (by decide)
        exact ⟨keeps_of_drewN k1, k2⟩
      · have e2 := Lib.hid (e1.trans (hwr.trans (if_neg g3)))
        have e3 : (!decide (kind = 1 ∧ x.x ≠ 0)) = true := by simp [g3]
        have hw := fun W hc => weighs D n kind x.x hk W hc
        rw [e3] at hw
        have HS := Lib.hid (fun W' => hsee (pre.map (·.1)) x W')
        have HJ := Lib.hid (HI.out.1.2.1)
        have e4 := Lib.hid (hwr.trans (if_neg g3))
        clear e1 hwr e3 g3
        gi_wp2
        refine K.region_lit_round (by kernel_rfl) (by kernel_rfl) (by kernel_rfl) ?_
        repeat (any_goals (first | go_big_quiet_step (fail) | quiet_step (fail)))
        refine wpQuiet_nil ?_
        intro _ hw'
        obtain ⟨nq, rfl⟩ := hw'
        gi_wp2_with fail
        refine ⟨trivial, (CallsIn.inRound lp (callsIn_wide.2 (hw (W.drewN nq) hck))).mono ?_⟩
        rintro e w' ⟨rfl, rfl⟩
        gi_wp2_with fail
        refine ⟨trivial, (CallsIn.inRound lp (callsIn_wide.2 (HS.out (W.drewN nq) (HI.out.drewN hJB nq).1.2.1 e4.out (by have := (HI.out.drewN hJB nq).2.2.2.lt; omega) HPN.out))).mono ?_⟩
        rintro e w' ⟨rfl, hj', hb', ha'⟩
        have hj2 := Lib.hid hj'
        clear hj'
        gi_wp2
        exact HI.out.goes hJB e2.out hj2.out (keeps_of_drewN (ha'.from (by omega))) ⟨ha'.size, ha'.same⟩ (stay_of_drewN hb')
    · have h1 : (y.2 == 0) = false := by simpa using hy
      have h2 : (y.2 != 0) = true := by simpa using hy
      have e2 := Lib.hid (show code n kind y = y.2 by unfold code; rw [if_neg hy])
      have e3 := Lib.hid hy
      clear hy
      gi_wp2
      exact HI.out.left hJB hn₀ e2.out e3.out
  case done =>
    rintro Dd xs W hDd rfl ⟨⟨hg, hJ, hb⟩, r0, r1, r2⟩ hKd
    obtain ⟨h1, h2, h3⟩ := told_all hg
    have hcr := r2.get (i := 0) rfl
    have hfr := r2.free 0
    rw [h3] at hJ
    have HJ := Lib.hid hJ
    have R2' := Lib.hid r2
    have h4 := Lib.hid (oerr_good (beh := beh) h2)
    have h5 := Lib.hid h1
    have HB := Lib.hid hb
    clear hJ hg r0 r1 r2 h3 h1 h2 hb
    gi_wp2
    have hK' := (KeepsOthers.setCell W ⟨w.heap.size + 1 + 1, 0, none⟩ (.int .i64 0)).same Dd _ hKd rfl
    have hr' := (R2'.out.set 0 (.int .i64 0)).grown (grownBy_putObj' _ Dd (.deferred none)) (fun e => by cases e; rw [R2'.out.set 0 (.int .i64 0)] at hK'; cases hK')
    have hX : Below w.heap.size W ((W.setCell ⟨w.heap.size + 1 + 1, 0, none⟩ (.int .i64 0)).putObj Dd (.deferred none)) :=
      ((Below.refl w.heap.size W).setCell (p := ⟨w.heap.size + 1 + 1, 0, none⟩) (by simp; omega) _).grown (grownBy_putObj' _ Dd (.deferred none)) (by have := R2'.out.lt; simp; omega) (fun k e => by cases e; omega)
    refine ⟨by simp, .inl ⟨_, _, rfl, run_takeDeferred hK', ?_⟩⟩
    have hc5 := hr'.get (i := 0) rfl
    refine ⟨.int .i64 0, by simp [results, Try.f70, go_sem, hc5], by rw [h4.out, h5.out], ⟨l, List.prefix_refl _, fun _ => rfl, ?_⟩⟩
    · exact hJB _ _ _ HJ.out hX
  case stop =>
    rintro Dd c xs W hDd hp ⟨rfl, ini, y, rfl, hc, ⟨hg, hJ, hb⟩, r0, r1, r2⟩ hKd
    obtain ⟨h1, h2⟩ := told_stop hp hg hc
    have hr' := r2.grown (grownBy_putObj' _ Dd (.deferred none)) (fun e => by cases e; rw [show W.heap[w.heap.size + 2]? = _ from r2] at hKd; cases hKd)
    have hX : Below w.heap.size W (W.putObj Dd (.deferred none)) := (Below.refl w.heap.size W).grown (grownBy_putObj' _ Dd (.deferred none)) (by have := r2.lt; omega) (fun k e => by cases e; omega)
    have HR := Lib.hid (r2.get (i := 0) rfl)
    have HP : OverPosts n kind beh J l (.returned (.int .i64 (code n kind y))) (W.putObj Dd (.deferred none)) :=
      ⟨by rw [h1], ⟨_, h2, fun h => absurd (h1.symm.trans h) hc, hJB _ _ _ hJ hX⟩⟩
    have HQ := Lib.hid HP
    have hc5 := Lib.hid (hr'.get (i := 0) rfl)
    clear h1 h2 hr' hX HP hJ hb hg hc r0 r1 r2 hp
    gi_wp2
    refine ⟨by simp, .inl ⟨_, _, rfl, run_takeDeferred hKd, ?_⟩⟩
    have hc6 := hc5.out
    exact ⟨.int .i64 (code n kind y), by simp [results, Try.f70, go_sem, hc6], HQ.out⟩
theorem over' (n kind : Int) (hk : kind ≠ 3) (D b0 b1 lo hi : Nat) (l : List E3) (beh : Int) (hr : l.length * 12 ≤ 140737488351232) (k : FuncId) (caps : Array Value)
    (eg : ∀ (args : Array Value) (w : World), (callFunc k args).run Try.prog w = .ok (.enter k args) w) (J : List E3 → World → Prop) (w : World)
    (hF : FeedFrom lo w hi b0 b1 l beh) (hn₀ : hi ≤ w.heap.size) (hE : w.cell? ⟨D, 2, none⟩ = some (feedVal b0 b1))
    (hJD : ∀ pre W, J pre W → W.cell? ⟨D, 0, none⟩ = some (.int .u32 n) ∧ W.cell? ⟨D, 1, none⟩ = some (.int .i64 kind))
    (hJB : ∀ pre W W', J pre W → Below w.heap.size W W' → J pre W')
    (hsee : ∀ pre x W, J pre W → wrong n kind x = 0 → w.heap.size ≤ W.heap.size →
      Calls Try.prog k (#[.agg #[.int .u32 x.s, .int .u32 x.d, .int .u32 x.x]] ++ caps) W fun e W' => e = .returned (.tuple #[]) ∧ J (pre ++ [x]) W' ∧ Stay lo hi W W' ∧ Above w.heap.size W W')
    (h0 : J [] w) :
    Calls Try.prog 70 #[.pointer (some ⟨D, 0, none⟩), .func (.func k) #[] caps] w (OverPosts n kind beh J l) :=
  over2 n kind hk D b0 b1 lo hi l beh hr k caps eg J w hF hn₀ hE hJD hJB (fun pre x W h1 h2 h3 _ => hsee pre x W h1 h2 h3) h0
end Go.Proofs.Ytepljdnhnnpdmaa.Desk
