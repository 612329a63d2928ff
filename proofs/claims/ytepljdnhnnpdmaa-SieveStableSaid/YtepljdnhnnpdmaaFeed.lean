/-
  The iterator over edges of layer 9: its own copy; every edge in its order, then the error behind them. No condition.
-/
import Derived.Test.YtepljdnhnnpdmaaM
import Derived.RangeFuncNested
import Derived.RangeFuncBound
import Derived.RangeFuncCalls
import Derived.RangeFuncLeaves
import Derived.Shelf.Abstract
import Derived.Shelf.RegionOpen
import Derived.OwnWalkIn
import Derived.TacticsInMore
import Derived.LoopNIn
import Derived.LoopIn
set_option linter.unusedVariables false
set_option linter.unusedSimpArgs false
namespace Go.Proofs.Ytepljdnhnnpdmaa.Feed
open Go.RowKit Go.Shelf K
attribute [local go_sem] Oper.semAt_some

theorem infoE : (Try.prog.info? 36).map (fun i => (i.zero, i.size, i.bytes)) = some (some (.agg #[.int .u32 0, .int .u32 0, .int .u32 0]), 3, 12) := by kernel_rfl
def Cloned (w : World) (l : List E3) (e : Ending) (w' : World) : Prop := ∃ v, e = .returned v ∧ w'.ownsRow w.heap.size 36 3 v l.length (evs l) ∧ Tame w.heap.size w w'
set_option maxRecDepth 100000 in
theorem clone_nil (w : World) : Calls Try.prog 62 #[.slice none 0 0] w (Cloned w []) := by
  have hq := fun W A n c => Lib.run_eql_slice_nil (P := Try.prog) W 30 36 A n c 0 0 Try.underlying30
  go_enter Try.func62, Try.ntmps62
  go_wp2
  go_ret
  exact ⟨_, rfl, World.ownsRow_nil _ _ _ _, Tame.refl _ _⟩
set_option maxRecDepth 100000 in
theorem clone_some (ad : Addr) (l : List E3) (cap : Nat) (hr : l.length * 12 ≤ 140737488351232) (w : World) (hA : Lay w w.heap.size (some ad) (evs l)) :
    Calls Try.prog 62 #[.slice (some ad) l.length cap] w (Cloned w l) := by
  have hq := fun W A n c => Lib.run_eql_slice_nil (P := Try.prog) W 30 36 A n c 0 0 Try.underlying30
  obtain ⟨i0, hi, hz0, hz1, hz2⟩ := info_parts infoE
  have hown := World.ownsRow_made (base := w.heap.size) (e := 36) (size := 3) w #[] 0 (Nat.le_refl _) (Nat.zero_le _) rfl
  go_enter Try.func62, Try.ntmps62
  go_wp2_with (at_builtin; refine wpList_append_own _ rfl _ _ 30 rfl w.heap.size 36 i0 (.agg #[.int .u32 0, .int .u32 0, .int .u32 0]) 3 12 Try.underlying30 hi hz0 hz1 hz2 rfl (by decide) _ _ _ rfl hown ad l.length cap (evs l) rfl ?c1 ?c2 ?c3 ?c4 ?c5 ?c6 ?_)
  case c1 => exact evs_length l
  case c2 =>
    intro j u hu
    have h0 : evs l ≠ [] := by intro h; rw [h] at hu; simp at hu
    obtain ⟨b, off, e, hB, hc⟩ := hA h0
    cases e
    rw [Go.WideShapes.add_plain]
    exact (World.cell?_alloc_lt w _ ⟨b, off + j, none⟩ hB).trans (hc j u hu)
  case c3 => exact evs_one l
  case c4 => unfold maxLen; omega
  case c5 => omega
  case c6 => simp
  intro v' w1 hown' hgrow _
  go_wp2
  go_ret
  refine ⟨_, rfl, by simpa using hown', ?_⟩
  exact ((Tame.refl w.heap.size w).alloc (Nat.le_refl _) _).grown hgrow (by simp) (fun k e => by simp [Value.ownBlock] at e; omega) (own_cells hown)
theorem clone (A : Option Addr) (l : List E3) (cap : Nat) (hr : l.length * 12 ≤ 140737488351232) (h0 : A = none → l.length = 0 ∧ cap = 0) (w : World) (hA : Lay w w.heap.size A (evs l)) :
    Calls Try.prog 62 #[.slice A l.length cap] w (Cloned w l) := by
  cases A with
  | none =>
    obtain ⟨h1, rfl⟩ := h0 rfl
    obtain rfl : l = [] := List.eq_nil_of_length_eq_zero h1
    exact clone_nil w
  | some ad => exact clone_some ad l cap hr w hA

/-- What the iterator has captured: its own copy of the edges, and the error behind them. -/
structure FeedAt (W : World) (B b0 b1 : Nat) (l : List E3) (beh : Int) : Prop where
  lt0 : b0 < B
  lt1 : b1 < B
  cells : ∃ A cap, W.cell? ⟨b0, 0, none⟩ = some (.slice A l.length cap) ∧ Lay W B A (evs l)
  beh : W.cell? ⟨b1, 0, none⟩ = some (.int .i64 beh)
/-- .. and all of it in blocks from lo on: what turns nothing from lo on leaves it. -/
def FeedFrom (lo : Nat) (W : World) (B b0 b1 : Nat) (l : List E3) (beh : Int) : Prop := ∀ W', (∀ k, lo ≤ k → k < B → W'.heap[k]? = W.heap[k]?) → FeedAt W' B b0 b1 l beh
theorem FeedAt.below {W W' : World} {B b0 b1 : Nat} {l : List E3} {beh : Int} (h : FeedAt W B b0 b1 l beh) (hb : Below B W W') : FeedAt W' B b0 b1 l beh := by
  obtain ⟨h0, h1, ⟨A, cap, hc, hl⟩, h2⟩ := h
  exact ⟨h0, h1, ⟨A, cap, (hb.cell (p := ⟨b0, 0, none⟩) h0).trans hc, hl.below hb⟩, (hb.cell (p := ⟨b1, 0, none⟩) h1).trans h2⟩
theorem FeedAt.more {W : World} {B B' b0 b1 : Nat} {l : List E3} {beh : Int} (h : FeedAt W B b0 b1 l beh) (hB : B ≤ B') : FeedAt W B' b0 b1 l beh := by
  obtain ⟨h0, h1, ⟨A, cap, hc, hl⟩, h2⟩ := h
  exact ⟨by omega, by omega, ⟨A, cap, hc, hl.more hB⟩, h2⟩
def feedVal (b0 b1 : Nat) : Value := .func (.func 63) #[] #[.pointer (some ⟨b0, 0, none⟩), .pointer (some ⟨b1, 0, none⟩)]
def FeedGot (w : World) (l : List E3) (beh : Int) (e : Ending) (w' : World) : Prop := ∃ b0 b1, e = .returned (feedVal b0 b1) ∧ FeedAt w' w'.heap.size b0 b1 l beh ∧ Tame w.heap.size w w' ∧ FeedFrom w.heap.size w' w'.heap.size b0 b1 l beh
set_option maxRecDepth 100000 in
theorem feed (A : Option Addr) (l : List E3) (cap : Nat) (beh : Int) (hr : l.length * 12 ≤ 140737488351232) (h0 : A = none → l.length = 0 ∧ cap = 0) (w : World) (hA : Lay w w.heap.size A (evs l)) :
    Calls Try.prog 19 #[.slice A l.length cap, .int .i64 beh] w (FeedGot w l beh) := by
  have R0 := Lib.hid ((Row.new w 30 #[.slice A l.length cap]).alloc (.cells #[.int .i64 beh] 22))
  have R1 := Lib.hid (Row.at (Row.new (w.alloc (.cells #[.slice A l.length cap] 30)) 22 #[.int .i64 beh]) (b' := w.heap.size + 1) (by simp))
  have T0 := Lib.hid (((Tame.refl w.heap.size w).alloc (Nat.le_refl _) (.cells #[.slice A l.length cap] 30)).alloc (by simp) (.cells #[.int .i64 beh] 22))
  have HA := Lib.hid hA
  have H0 := Lib.hid h0
  clear hA h0
  go_enter Try.func19, Try.ntmps19
  go_wp2_with fail
  refine (clone A l cap hr H0.out _ ((HA.out.below T0.out.below).more T0.out.size)).mono ?_
  rintro e w1 ⟨v, rfl, ho, ht⟩
  have S0 := R0.out.below ht.below R0.out.lt
  have S1 := R1.out.below ht.below R1.out.lt
  have hc0 : w1.cell? ⟨w.heap.size, 0, none⟩ = some (.slice A l.length cap) := S0.get rfl
  have hf0 := S0.free 0
  have ho' := ownsRow_setCell_below ho (a := ⟨w.heap.size, 0, none⟩) (by simp; omega) v
  have T1 := Lib.hid ((T0.out.next ht (by simp; omega)).setCell (p := ⟨w.heap.size, 0, none⟩) (Nat.le_refl _) v)
  have U0 := Lib.hid (S0.set 0 v)
  have U1 := Lib.hid (S1.other (a := ⟨w.heap.size, 0, none⟩) (by simp) v)
  obtain ⟨A', cap', rfl, -, -, hl⟩ := lay_of_own ho'
  have HL := Lib.hid hl
  have HO := Lib.hid ho'
  clear hl ho ho' ht S0 S1
  go_wp2
  go_ret
  have HF : ∀ W', (∀ k, w.heap.size ≤ k → k < (w1.setCell ⟨w.heap.size, 0, none⟩ (.slice A' l.length cap')).heap.size → W'.heap[k]? = (w1.setCell ⟨w.heap.size, 0, none⟩ (.slice A' l.length cap')).heap[k]?) →
      FeedAt W' (w1.setCell ⟨w.heap.size, 0, none⟩ (.slice A' l.length cap')).heap.size w.heap.size (w.heap.size + 1) l beh := by
    intro W' h
    have V0 : Row W' w.heap.size _ _ := (h _ (Nat.le_refl _) U0.out.lt).trans U0.out
    have V1 : Row W' (w.heap.size + 1) _ _ := (h _ (by omega) U1.out.lt).trans U1.out
    refine ⟨U0.out.lt, U1.out.lt, ⟨A', cap', V0.get rfl, ?_⟩, V1.get rfl⟩
    intro hne
    obtain ⟨b, off, e, hb, hc⟩ := HL.out hne
    refine ⟨b, off, e, hb, fun j u hu => ?_⟩
    have hlo : w.heap.size ≤ b := by
      have h0 := HO.out.lt b (by rw [e]; rfl)
      simp at h0; omega
    have h1 := hc j u hu
    unfold World.cell? at h1 ⊢
    simp only at h1 ⊢
    rw [h b hlo hb]; exact h1
  refine ⟨_, _, rfl, ⟨U0.out.lt, U1.out.lt, ⟨A', cap', U0.out.get rfl, HL.out⟩, U1.out.get rfl⟩, T1.out, HF⟩

/-! ### the iterator -/
abbrev Tick := E3 × Int
def told (l : List E3) (beh : Int) : List Tick := l.map (fun x => (x, 0)) ++ (if beh = 0 then [] else [(E3.zero, beh)])
def encs (y : Tick) : Array Value := #[.agg #[.int .u32 y.1.s, .int .u32 y.1.d, .int .u32 y.1.x], .int .i64 y.2]
theorem told_take {l : List E3} {beh : Int} {k : Nat} (hk : k ≤ l.length) : (told l beh).take k = (l.take k).map (fun x => (x, 0)) := by
  unfold told
  rw [List.take_append_of_le_length (by simpa using hk), List.map_take]
theorem told_succ {l : List E3} {k : Nat} {x : E3} (hx : l[k]? = some x) : (l.take (k + 1)).map (fun x => ((x, 0) : Tick)) = (l.take k).map (fun x => (x, 0)) ++ [(x, 0)] := by
  obtain ⟨h, rfl⟩ := List.getElem?_eq_some_iff.1 hx
  rw [List.take_succ_eq_append_getElem h, List.map_append]; rfl
theorem told_length (l : List E3) (beh : Int) : l.length ≤ (told l beh).length := by simp [told]
theorem told_pre (l : List E3) (beh : Int) (k : Nat) : (l.take k).map (fun x => ((x, 0) : Tick)) <+: told l beh := by
  unfold told
  refine List.IsPrefix.trans ?_ (List.prefix_append _ _)
  exact List.IsPrefix.map _ (List.take_prefix _ _)
def RelIt (n : Nat) (W : World) (l : List E3) (J : List Tick → World → Prop) (n₀ : Nat) (i : Value) (wr : World) : Prop :=
  ∃ k : Nat, k ≤ n ∧ i = .int .i64 k ∧ J ((l.take k).map (fun x => (x, 0))) wr ∧ Below n₀ W wr
def ItPost (l : List E3) (beh : Int) (J Jx : List Tick → World → Prop) (e : Ending) (W' : World) : Prop :=
  (∃ v, e = .returned v) ∧ ((∃ xs, xs = told l beh ∧ J xs W') ∨ (∃ pre, pre <+: told l beh ∧ Jx pre W'))
set_option maxRecDepth 100000 in
set_option maxHeartbeats 2000000 in
theorem feed1 (m : Nat) (hm : 1 ≤ m) (lp b0 b1 n₀ : Nat) (l : List E3) (beh : Int) (hr : l.length * 12 ≤ 140737488351232) (J Jx : List Tick → World → Prop)
    (hY : ∀ pre x W, J pre W → pre.length < (told l beh).length → YieldAt Fence.wide (m - 1) Try.prog lp (encs x) W fun e W' =>
      (e = .returned (.bool true) ∧ J (pre ++ [x]) W' ∧ Below n₀ W W') ∨ (e = .returned (.bool false) ∧ Jx (pre ++ [x]) W'))
    (hJa : ∀ pre (W : World) (o : Obj), J pre W → J pre (W.alloc o))
    (W : World) (hF : FeedAt W n₀ b0 b1 l beh) (hn₀ : n₀ ≤ W.heap.size) (h0 : J [] W) :
    CallsIn Fence.wide m Try.prog 63 #[.func (.yield lp) #[] #[], .pointer (some ⟨b0, 0, none⟩), .pointer (some ⟨b1, 0, none⟩)] W (ItPost l beh J Jx) := by
  obtain ⟨g0, g1, ⟨A, cap, hc, hl⟩, hb⟩ := hF
  have HL := Lib.hid hl
  clear hl
  refine callsIn_of_wp Try.func63 rfl trivial ?_ rfl; simp only [Try.ntmps63, List.size_toArray, List.length_cons, List.length_nil, Nat.reduceAdd, Nat.reduceSub, Array.replicate_succ, Array.replicate_zero, List.push_toArray, List.append_toArray, List.nil_append, List.cons_append]
  gi_wp2
  gi_loopw [8] (fun i wr => RelIt l.length W l J n₀ i wr) (fun i _ => l.length - (intOf i).toNat)
  case atStart => exact ⟨0, Nat.zero_le _, rfl, h0, Below.refl _ _⟩
  case round =>
    obtain ⟨k, hk, rfl, hJs, hnx⟩ := hrel
    rcases Nat.lt_or_ge k l.length with hlt | hge
    · obtain ⟨x, hx⟩ : ∃ x, l[k]? = some x := ⟨_, List.getElem?_eq_getElem hlt⟩
      obtain ⟨b, off, rfl, hB, c0, c1, c2⟩ := (HL.out.below hnx).edge hx
      have hJ1 := hJa _ wr (.cells #[.int .u32 x.s, .int .u32 x.d, .int .u32 x.x] 36) hJs
      obtain ⟨fn, tmps, assign, body, hy, hR⟩ := hY _ (x, 0) _ hJ1 (by have := told_length l beh; simp; omega)
      have HX := Lib.hid hx
      clear hx hJs hJ1
      unfold encs at hy
      dsimp only at hy
      have hkb : decide ((k : Int) < (l.length : Int)) = true := by simp; omega
      have hb' := (hnx.cell (p := ⟨b1, 0, none⟩) g1).trans hb
      gi_wp2
      refine hR.mono ?_
      rintro e W3 (⟨rfl, hJ3, hk3⟩ | ⟨rfl, hJx3⟩)
      · gi_wp2
        go_roundw
        case rel => exact ⟨k + 1, by omega, by go_num, by rw [told_succ HX.out]; exact hJ3, (hnx.trans ((Below.refl n₀ wr).alloc (Nat.le_trans hn₀ hnx.size) _)).trans hk3⟩
        case measure => simp [intOf]; omega
      · gi_wp2
        refine bodyPost_ret (results_none rfl _ _ _) rfl ?_
        exact ⟨⟨_, rfl⟩, .inr ⟨_, by rw [← told_succ HX.out]; exact told_pre l beh (k + 1), hJx3⟩⟩
    · obtain rfl : k = l.length := by omega
      rw [List.take_length] at hJs
      have hb' := (hnx.cell (p := ⟨b1, 0, none⟩) g1).trans hb
      have hkb : decide ((l.length : Int) < (l.length : Int)) = false := by simp
      by_cases h0 : beh = 0
      · subst h0
        gi_wp2
        go_end0
        exact ⟨⟨_, rfl⟩, .inl ⟨_, rfl, by simpa [told] using hJs⟩⟩
      · have hne : (beh == 0) = false := by simpa using h0
        have hne' : (beh != 0) = true := by simpa using h0
        obtain ⟨fn, tmps, assign, body, hy, hR⟩ := hY _ (E3.zero, beh) _ hJs (by simp [told, h0])
        unfold encs E3.zero at hy
        dsimp only at hy
        gi_wp2
        refine hR.mono ?_
        have ht : told l beh = l.map (fun x => ((x, 0) : Tick)) ++ [(E3.zero, beh)] := by simp [told, h0]
        rintro e W3 (⟨rfl, hJ3, hk3⟩ | ⟨rfl, hJx3⟩)
        · gi_wp2
          go_end0
          exact ⟨⟨_, rfl⟩, .inl ⟨_, rfl, by rw [ht]; exact hJ3⟩⟩
        · gi_wp2
          go_end0
          exact ⟨⟨_, rfl⟩, .inr ⟨_, by rw [ht]; exact List.prefix_refl _, hJx3⟩⟩
theorem feed_stops (m : Nat) (hm : 1 ≤ m) (b0 b1 n₀ : Nat) (l : List E3) (beh : Int) (hr : l.length * 12 ≤ 140737488351232) (w : World) (hF : FeedAt w n₀ b0 b1 l beh) (hn₀ : n₀ ≤ w.heap.size) :
    SeqStopsK Fence.wide m Try.prog 63 #[.pointer (some ⟨b0, 0, none⟩), .pointer (some ⟨b1, 0, none⟩)] encs (Below n₀) (fun ys => ys = told l beh) (fun pre => pre <+: told l beh) (told l beh).length w := fun lp J Jx W hW hJ _ hY h0 =>
  feed1 m hm lp b0 b1 n₀ l beh hr J Jx hY (fun pre A o hs => hJ pre A _ none hs (World.grownBy_alloc A o none) (fun r e => by cases e)) W (hF.below (hW.mono hn₀)) (Nat.le_trans hn₀ hW.size) h0
end Go.Proofs.Ytepljdnhnnpdmaa.Feed
