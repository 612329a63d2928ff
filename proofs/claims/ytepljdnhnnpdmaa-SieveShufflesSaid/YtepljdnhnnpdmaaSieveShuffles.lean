/-
  SieveShuffles: every shuffle of updates by the parts of their vertices: the answer, the buffer it lies in, and what stays: the program's are the document's. No condition.
-/
import Derived.Test.YtepljdnhnnpdmaaRows
import Derived.Test.YtepljdnhnnpdmaaShuf8
import Derived.Deep.DeepCutAuto
import Derived.Deep.RegionHeld3
import Derived.Deep.AppendLies
import Derived.ChangeOld
import Derived.SizedLaws
set_option linter.unusedVariables false
set_option linter.unusedSimpArgs false
namespace Go.Proofs.Ytepljdnhnnpdmaa.sieveShuffles
open Go.RowKit Go.Shelf Go.ChangeShapes Go.WideShapes Go.ChangeAt K Desk Cut Radix Shuf

def RelF (gb capb bl : Nat) (W : World) (i : Value) (wr : World) : Prop := ∃ j : Nat, j ≤ bl ∧ i = .int .i64 j ∧ Pre wr gb 55 (capb * 3) (ucs (Shuf.fill bl j) ++ marks) ∧ Turns (fun k => k = gb) W wr
/-- What holds behind the program's shuffle. -/
structure Q0 (us : List U3) (ga gb ca cb bl : Nat) (W X : World) : Prop where
  a : Pre X ga 55 (ca * 3) (ucs us ++ marks)
  b : Pre X gb 55 (cb * 3) (ucs (List.replicate bl u99) ++ marks)
  u : Below W.heap.size W X
/-- The error ahead of the parts. -/
def err0 (parts fan : Int) (m bl : Nat) : Int := if fcode parts fan = 0 ∧ bl < m then 94 else fcode parts fan
def CutA (n' k' q r : Int) (us : List U3) (ga gb ca cb bl : Nat) (parts fan : Int) (va vb : Value) (W : World) (fr st e : Value) (X : World) : Prop :=
  (err0 parts fan us.length bl ≠ 0 ∧ fr = .slice none 0 0 ∧ st = .slice none 0 0 ∧ e = .int .i64 (err0 parts fan us.length bl) ∧ Q0 us ga gb ca cb bl W X) ∨
  (err0 parts fan us.length bl = 0 ∧ ∃ (k fn : Nat), parts = k ∧ fan = fn ∧ 1 ≤ k ∧ k ≤ 512 ∧ 2 ≤ fn ∧ fn ≤ 256 ∧ us.length ≤ bl ∧
    (((∃ x ∈ us, ¬ okP n' q r k x) ∧ fr = .slice none 0 0 ∧ st = .slice none 0 0 ∧ e = .int .i64 93 ∧ Q0 us ga gb ca cb bl W X) ∨
     (e = .int .i64 0 ∧ ∃ s, ShufOk n' q r k fn s us va vb ga gb (ca * 3) (cb * 3) marks (ucs (List.replicate (bl - us.length) u99) ++ marks) W (Ending.returned (.tuple #[fr, st, .int .i64 0])) X)))
/-- What a call leaves that turns two blocks alone. -/
structure Keeps (ga gb : Nat) (W X : World) : Prop where
  t : Turns (fun k => k = ga ∨ k = gb) W X
theorem Keeps.size {ga gb : Nat} {W X : World} (h : Keeps ga gb W X) : W.heap.size ≤ X.heap.size := h.t.size
theorem cutA_world {n' k' q r : Int} {us : List U3} {ga gb ca cb bl : Nat} {parts fan : Int} {va vb : Value} {W : World} {fr st e : Value} {X : World} (h : CutA n' k' q r us ga gb ca cb bl parts fan va vb W fr st e X) : Keeps ga gb W X := by
  rcases h with ⟨-, -, -, -, h⟩ | ⟨-, k, fn, -, -, -, -, -, -, -, ⟨-, -, -, -, h⟩ | ⟨-, s, h⟩⟩
  · exact ⟨Turns.of_below h.u⟩
  · exact ⟨Turns.of_below h.u⟩
  · exact ⟨h.turns⟩
def RelAt (n q r : Int) (us : List U3) (W : World) (v i : Value) (wr : World) : Prop :=
  ∃ j : Nat, j ≤ us.length ∧ i = .int .i64 j ∧ wr.ownsRow W.heap.size 3 1 v j (pv (psL n q r (us.take j))) ∧ Below W.heap.size W wr
/-- What holds behind the document's answer. -/
structure GoodB (n' q r : Int) (us : List U3) (ga gb ca cb bl : Nat) (parts sg : Int) (va vb fr st ord want : Value) (X : World) : Prop where
  d : ∃ (k s gc co cs0 : Nat) (Ao As : Option Addr) (T : List U3), parts = k ∧ k ≤ 512 ∧ us.length ≤ bl ∧ sg = s ∧ st = .slice (some ⟨gc, 0, none⟩) (k + 1) (k + 1) ∧ Row X gc 3 (ic (stsL (psL n' q r us) k)) ∧
    (ordL (psL n' q r us) k).length = us.length ∧ ord = .slice Ao us.length co ∧ Lay X X.heap.size Ao (iv (ordL (psL n' q r us) k)) ∧ want = .slice As (k + 1) cs0 ∧ Lay X X.heap.size As (iv (stsL (psL n' q r us) k)) ∧ T.length = us.length ∧ gc ≠ ga ∧ gc ≠ gb ∧
    (∀ i ∈ ordL (psL n' q r us) k, i < us.length) ∧
    ((s % 2 = 0 ∧ fr = va ∧ Pre X ga 55 (ca * 3) (ucs ((ordL (psL n' q r us) k).map fun i => us.getD i u0) ++ marks) ∧ Pre X gb 55 (cb * 3) (ucs (T ++ List.replicate (bl - us.length) u99) ++ marks)) ∨
     (s % 2 = 1 ∧ fr = vb ∧ Pre X gb 55 (cb * 3) (ucs (((ordL (psL n' q r us) k).map fun i => us.getD i u0) ++ List.replicate (bl - us.length) u99) ++ marks) ∧ Pre X ga 55 (ca * 3) (ucs T ++ marks)))
def CutB (n' q r : Int) (us : List U3) (ga gb ca cb bl : Nat) (parts sg : Int) (va vb fr st e : Value) (w : World) (f ord want : Value) (X : World) : Prop :=
  Below w.heap.size w X ∧ ∃ F1 : Int, f = .int .i64 F1 ∧ e = .int .i64 F1 ∧
    ((F1 ≠ 0 ∧ fr = .slice none 0 0 ∧ st = .slice none 0 0 ∧ Pre X ga 55 (ca * 3) (ucs us ++ marks) ∧ Pre X gb 55 (cb * 3) (ucs (List.replicate bl u99) ++ marks)) ∨
     (F1 = 0 ∧ GoodB n' q r us ga gb ca cb bl parts sg va vb fr st ord want X))
theorem marked' (g m cap : Nat) (xs : List Value) (hx : xs.length = m * 3) (hcap : m + 2 ≤ cap) (hm : m * 24 ≤ 140737488355328) (w : World) (h : Pre w g 55 (cap * 3) (xs ++ marks)) :
    Calls Try.prog 34 #[.slice (some ⟨g, 0, none⟩) m cap] w fun e w' => e = .returned (.bool true) ∧ Below w.heap.size w w' := by
  have key : ∀ f v, marks[f]? = some v → w.cell? ⟨g, m * 3 + f, none⟩ = some v := fun f v hv => h.get (by rw [List.getElem?_append_right (by omega), show m * 3 + f - xs.length = f by omega]; exact hv)
  have a0 : w.cell? ⟨g, m * 3, none⟩ = some (.int .u32 77) := key 0 _ rfl
  have a1 : w.cell? ⟨g, m * 3 + 1, none⟩ = some (.int .u64 77) := key 1 _ rfl
  have a2 : w.cell? ⟨g, m * 3 + 2, none⟩ = some (.int .u64 77) := key 2 _ rfl
  have b0 : w.cell? ⟨g, (m + 1) * 3, none⟩ = some (.int .u32 78) := by rw [show (m + 1) * 3 = m * 3 + 3 by omega]; exact key 3 _ rfl
  have b1 : w.cell? ⟨g, (m + 1) * 3 + 1, none⟩ = some (.int .u64 78) := by rw [show (m + 1) * 3 + 1 = m * 3 + 4 by omega]; exact key 4 _ rfl
  have b2 : w.cell? ⟨g, (m + 1) * 3 + 2, none⟩ = some (.int .u64 78) := by rw [show (m + 1) * 3 + 2 = m * 3 + 5 by omega]; exact key 5 _ rfl
  have hg := Pre.lt h
  have e7 := fun W => eq_self u77 W
  have e8 := fun W => eq_self u78 W
  unfold u77 at e7
  unfold u78 at e8
  dsimp only at e7 e8
  have hmc : (m : Int) + 2 ≤ (cap : Int) := by omega
  clear h hx key
  go_enter Try.func34, Try.ntmps34
  go_wp2
  go_ret
  exact ⟨rfl, Below.refl _ _⟩
theorem eq_raw (t a b : Int) (W : World) : (binOp .eql 55 (.agg #[.int .u32 t, .int .u64 a, .int .u64 b]) (.agg #[.int .u32 t, .int .u64 a, .int .u64 b])).run Try.prog W = .ok (.bool true) W := by
  rw [run_eql_struct]
  have u := Try.underlying55
  have u1 := Try.underlying34
  have u2 := Try.underlying53
  simp [go_sem, u, u1, u2]
theorem neq_raw (t a b : Int) (W : World) : (binOp .neq 55 (.agg #[.int .u32 t, .int .u64 a, .int .u64 b]) (.agg #[.int .u32 t, .int .u64 a, .int .u64 b])).run Try.prog W = .ok (.bool false) W := by
  rw [run_neq_struct]
  have u := Try.underlying55
  have u1 := Try.underlying34
  have u2 := Try.underlying53
  simp [go_sem, u, u1, u2]
theorem set_one {X : World} {g cap : Nat} {T : TypeId} {L : List U3} {x : U3} {rest : List Value} (h : Pre X g T cap (ucs L ++ rest)) (hx : L[0]? = some x) (V : Int) : Pre (X.setCell ⟨g, 1, none⟩ (.int .u64 V)) g T cap (.int .u32 x.t :: .int .u64 V :: .int .u64 x.b :: (ucs L.tail ++ rest)) := by
  cases L with
  | nil => simp at hx
  | cons y t =>
    obtain rfl : y = x := by simpa using hx
    exact h.set (i := 1) (.int .u64 V)
theorem cell9 {X : World} {g cap m : Nat} {T : TypeId} {L R : List U3} {a b c : Value} {rest : List Value} (h : Pre X g T cap (a :: b :: c :: (ucs (L ++ R).tail ++ rest))) (hL : L.length = m) (hm : 0 < m) {y : U3} (hy : R[0]? = some y) : X.cell? ⟨g, m * 3, none⟩ = some (.int .u32 y.t) := by
  obtain ⟨m1, rfl⟩ : ∃ m1, m = m1 + 1 := ⟨m - 1, by omega⟩
  refine h.get ?_
  rw [show (m1 + 1) * 3 = m1 * 3 + 3 by omega]
  show (ucs (L ++ R).tail ++ rest)[m1 * 3]? = _
  have hx : (L ++ R).tail[m1]? = some y := by rw [List.getElem?_tail, List.getElem?_append_right (by omega), show m1 + 1 - L.length = 0 by omega]; exact hy
  rw [List.getElem?_append_left (by rw [ucs_length]; have := (List.getElem?_eq_some_iff.1 hx).1; omega)]
  exact flat_get (f := 0) uc_length hx rfl
theorem pick {m s ga gb ca cb bl : Nat} {L T : List U3} {fr : Value} {X : World} (h : (s % 2 = 0 ∧ fr = .slice (some ⟨ga, 0, none⟩) m ca ∧ Pre X ga 55 (ca * 3) (ucs L ++ marks) ∧ Pre X gb 55 (cb * 3) (ucs (T ++ List.replicate (bl - m) u99) ++ marks)) ∨
     (s % 2 = 1 ∧ fr = .slice (some ⟨gb, 0, none⟩) m m ∧ Pre X gb 55 (cb * 3) (ucs (L ++ List.replicate (bl - m) u99) ++ marks) ∧ Pre X ga 55 (ca * 3) (ucs T ++ marks))) :
    ∃ (gi ci : Nat) (rest : List Value), fr = .slice (some ⟨gi, 0, none⟩) m ci ∧ (gi = ga ∨ gi = gb) ∧ ∃ cap, Pre X gi 55 cap (ucs L ++ rest) := by
  rcases h with ⟨-, e, h1, -⟩ | ⟨-, e, h1, -⟩
  · exact ⟨ga, ca, _, e, .inl rfl, _, h1⟩
  · exact ⟨gb, m, ucs (List.replicate (bl - m) u99) ++ marks, e, .inr rfl, cb * 3, by rw [ucs_append, List.append_assoc] at h1; exact h1⟩
def RelK (m bl : Nat) (W : World) (i : Value) (wr : World) : Prop := ∃ j : Nat, m ≤ j ∧ i = .int .i64 j ∧ Below W.heap.size W wr
def RelL (m : Nat) (W : World) (i : Value) (wr : World) : Prop := ∃ j : Nat, j ≤ m ∧ i = .int .i64 j ∧ Below W.heap.size W wr
theorem lay_iv {W : World} {B : Nat} {A : Option Addr} {l : List Nat} (h : Lay W B A (iv l)) {k : Nat} {x : Nat} (hx : l[k]? = some x) : ∃ b off, A = some ⟨b, off, none⟩ ∧ b < B ∧ W.cell? ⟨b, off + k, none⟩ = some (.int .i64 x) := by
  obtain ⟨b, off, e, hB, hc⟩ := h (by intro h0; have hk := (List.getElem?_eq_some_iff.1 hx).1; have : (iv l).length = 0 := by rw [h0]; rfl
                                      simp [iv] at this; rw [this] at hk; simp at hk)
  exact ⟨b, off, e, hB, hc k _ (by simp [iv, hx])⟩
theorem mem_ord {ps : List Int} {k i : Nat} (h : i ∈ ordL ps k) : i < ps.length := by
  unfold ordL bucket at h
  obtain ⟨v, -, hx⟩ := List.mem_flatMap.1 h
  exact List.mem_range.1 (List.mem_filter.1 hx).1
theorem ord_full {n' q r : Int} {us : List U3} {k : Nat} (h : ∀ x ∈ us, okP n' q r k x) : (ordL (psL n' q r us) k).length = us.length := by
  have h1 : bucket (pn n' q r) k us = (ordL (psL n' q r us) k).map fun i => us.getD i u0 := bucket_order n' q r us k
  have h2 : (bucket (pn n' q r) k us).length = us.length := bucket_len fun x hx => by
    obtain ⟨a, b⟩ := h x hx
    unfold pn; omega
  rw [← h2, h1, List.length_map]
theorem fcode_zero {k fan : Int} (h : fcode k fan = 0) : 1 ≤ k ∧ k ≤ 512 ∧ 2 ≤ fan ∧ fan ≤ 256 := by
  unfold fcode at h
  split at h
  · cases h
  · split at h
    · cases h
    · omega
def RefSt (parts fan : Int) (w : World) (e : Ending) (w' : World) : Prop := ∃ sg : Int, e = .returned (.tuple #[.int .i64 sg, .int .i64 (fcode parts fan)]) ∧ (∀ k fn : Nat, parts = k → fan = fn → fcode parts fan = 0 → ∃ s : Nat, sg = s ∧ IsSt k fn s) ∧ w = w'
theorem refSt (parts fan : Int) (w : World) : Calls Try.prog 18 #[.int .i64 parts, .int .i64 fan] w (RefSt parts fan w) := by
  by_cases h : fcode parts fan = 0
  · obtain ⟨h1, h2, h3, h4⟩ := fcode_zero h
    obtain ⟨k, rfl⟩ := Int.eq_ofNat_of_zero_le (show 0 ≤ parts by omega)
    obtain ⟨fn, rfl⟩ := Int.eq_ofNat_of_zero_le (show 0 ≤ fan by omega)
    refine (refStagesYes k fn (by omega) (by omega) (by omega) (by omega) w).mono ?_
    rintro e w' ⟨s, rfl, hs, rfl⟩
    refine ⟨s, by rw [h], fun k' fn' e1 e2 _ => ⟨s, rfl, ?_⟩, rfl⟩
    have a1 : k = k' := by omega
    have a2 : fn = fn' := by omega
    rw [← a1, ← a2]; exact hs
  · refine (refStagesNo parts fan h w).mono ?_
    rintro e w' ⟨rfl, rfl⟩
    exact ⟨0, rfl, fun _ _ _ _ g => absurd g h, rfl⟩
/-- The program's shuffle, whatever comes. -/
theorem shufAny (n' k' q r : Int) (hg : Cut.Good n' k' q r) (parts fan : Int) (us : List U3) (ga gb ca cb bl : Nat) (hm : us.length * 24 ≤ 140737488351232) (hca : us.length + 2 ≤ ca) (hcb : bl + 2 ≤ cb) (hne : ga ≠ gb) (W X : World) (h : Q0 us ga gb ca cb bl W X) :
    Calls Try.prog 32 #[.slice (some ⟨ga, 0, none⟩) us.length ca, .slice (some ⟨gb, 0, none⟩) bl cb, .int .i64 parts, .int .i64 fan, pf n' k' q r] X fun en X' =>
      ∃ fr st e, en = .returned (.tuple #[fr, st, e]) ∧ CutA n' k' q r us ga gb ca cb bl parts fan (.slice (some ⟨ga, 0, none⟩) us.length ca) (.slice (some ⟨gb, 0, none⟩) us.length us.length) X fr st e X' := by
  have hq : ∀ X', Below X.heap.size X X' → Q0 us ga gb ca cb bl X X' := fun X' hb => ⟨h.a.below hb (Pre.lt h.a), h.b.below hb (Pre.lt h.b), hb⟩
  by_cases h0 : fcode parts fan = 0
  · obtain ⟨h1, h2, h3, h4⟩ := fcode_zero h0
    obtain ⟨k, rfl⟩ := Int.eq_ofNat_of_zero_le (show 0 ≤ parts by omega)
    obtain ⟨fn, rfl⟩ := Int.eq_ofNat_of_zero_le (show 0 ≤ fan by omega)
    by_cases hb : bl < us.length
    · have hE : err0 k fn us.length bl = 94 := if_pos ⟨h0, hb⟩
      refine (shufTight n' k' q r k fn (by omega) (by omega) (by omega) (by omega) _ _ us.length bl ca cb hb X).mono ?_
      rintro en X' ⟨rfl, rfl⟩
      exact ⟨_, _, _, rfl, .inl ⟨by rw [hE]; decide, rfl, rfl, by rw [hE], hq _ (Below.refl _ _)⟩⟩
    · have hE : err0 k fn us.length bl = 0 := by unfold err0; rw [if_neg (fun g => hb g.2), h0]
      have hsplit : ucs (List.replicate bl u99) ++ marks = ucs (List.replicate us.length u99) ++ (ucs (List.replicate (bl - us.length) u99) ++ marks) := by
        rw [← List.append_assoc, ← ucs_append, List.replicate_append_replicate, show us.length + (bl - us.length) = bl by omega]
      refine (shuffle n' k' q r hg k fn (by omega) (by omega) (by omega) (by omega) (some ⟨ga, 0, none⟩) (some ⟨gb, 0, none⟩) ga gb (ca * 3) (cb * 3) ca bl cb us (List.replicate us.length u99) marks _ (List.length_replicate) (by omega) (by omega) (by omega) (fun _ => rfl) (fun _ => rfl) hne (fun e => by cases e) X h.a (hsplit ▸ h.b)).mono ?_
      rintro en X' (⟨hbad, rfl, hbX⟩ | ⟨s, hs⟩)
      · exact ⟨_, _, _, rfl, .inr ⟨hE, k, fn, rfl, rfl, by omega, by omega, by omega, by omega, by omega, .inl ⟨hbad, rfl, rfl, rfl, hq _ hbX⟩⟩⟩
      · obtain ⟨gc, fr, to_, T, rfl, -⟩ := hs.gc
        exact ⟨_, _, _, rfl, .inr ⟨hE, k, fn, rfl, rfl, by omega, by omega, by omega, by omega, by omega, .inr ⟨rfl, s, hs⟩⟩⟩
  · have hE : err0 parts fan us.length bl = fcode parts fan := if_neg (fun g => h0 g.1)
    refine (shufNo n' k' q r parts fan _ _ h0 X).mono ?_
    rintro en X' ⟨rfl, rfl⟩
    exact ⟨_, _, _, rfl, .inl ⟨by rw [hE]; exact h0, rfl, rfl, by rw [hE], hq _ (Below.refl _ _)⟩⟩
set_option maxRecDepth 100000 in
set_option maxHeartbeats 8000000 in
theorem walk (n k parts more fan : Int) (hn : 0 ≤ n ∧ n ≤ 4294967295) (hk : -9223372036854775808 ≤ k ∧ k ≤ 9223372036854775807) (hmore : -9223372036854775808 ≤ more ∧ more ≤ 9223372036854775807) (A : Option Addr) (us : List U3) (ucap : Nat) (hr : us.length * 24 ≤ 140737488351232)
    (w : World) (hA : Lay w w.heap.size A (ucs us)) :
    Calls Try.prog 8 #[.int .u32 n, .int .i64 k, .int .i64 parts, .slice A us.length ucap, .int .i64 more, .int .i64 fan] w fun e w' => e = .returned (.bool true) ∧ Below w.heap.size w w' := by
  obtain ⟨n', k', q, r, er, hgood, hsp, hrf⟩ := splits n k hn.1 hn.2
  obtain ⟨mx, hmx⟩ : ∃ mx, (if more < -(us.length : Int) then -(us.length : Int) else more) = mx := ⟨_, rfl⟩
  obtain ⟨ex, hex⟩ : ∃ ex, (if (100 : Int) < mx then 100 else mx) = ex := ⟨_, rfl⟩
  have hxb : -(us.length : Int) ≤ ex ∧ ex ≤ 100 := by
    have : -(us.length : Int) ≤ mx := by rw [← hmx]; split <;> omega
    rw [← hex]; split <;> omega
  obtain ⟨bl, hbl⟩ : ∃ bl : Nat, (us.length : Int) + ex = bl := ⟨((us.length : Int) + ex).toNat, by omega⟩
  have hsp := Lib.hid hsp
  have hrf := Lib.hid hrf
  have HG := Lib.hid hgood
  have HA := Lib.hid hA
  clear hgood hA
  go_enter Try.func8, Try.ntmps8
  go_wp2_with fail
  refine (hsp.out _).mono ?_
  rintro e w1 ⟨rfl, hb1⟩
  have s1 := hb1.size
  have B2 := Lib.hid (hb1.alloc hb1.size (.cells #[.int .u32 n', .int .u32 k', .int .u32 q, .int .u32 r] 39))
  have RC2 := Lib.hid (Row.new w1 39 #[.int .u32 n', .int .u32 k', .int .u32 q, .int .u32 r])
  clear hb1
  go_wp2_with fail
  refine (hrf.out _).mono ?_
  rintro e w3 ⟨rfl, hb3⟩
  have s3 := hb3.size
  simp only [World.size_alloc] at s3
  have B3 := B2.out.trans (hb3.mono (by simp only [World.size_alloc]; omega))
  have RC3 := RC2.out.below hb3 (by simp)
  have B4 := B3.alloc B3.size (.cells #[.int .u32 n', .int .i64 k'] 43)
  have RC4 := RC3.alloc (.cells #[.int .u32 n', .int .i64 k'] 43)
  have RR4 := Row.new w3 43 #[.int .u32 n', .int .i64 k']
  have hr32 : (-(us.length : Int)) ≤ 0 := by omega
  obtain ⟨W4, hW4⟩ : ∃ W4, w3.alloc (.cells #[.int .u32 n', .int .i64 k'] 43) = W4 := ⟨_, rfl⟩
  have S4 : W4.heap.size = w3.heap.size + 1 := by rw [← hW4]; simp
  rw [hW4] at B4 RC4 RR4
  have hB4s := B4.size
  have H4 := Lib.hid (And.intro B4 (And.intro RC4 RR4))
  have HA4 := Lib.hid ((HA.out.below B4).more hB4s)
  have HU := Lib.hid (fun W hL => updates A us ucap us.length (by omega) (by omega) W hL)
  have HU2 := Lib.hid (fun W => by exact (updates none [] 0 bl (by omega) (by simp) W (Lay.nil _ _ _) : Calls Try.prog 31 #[.slice none 0 0, .int .i64 bl] W (UpdAt W [] bl)))
  have HW4 := Lib.hid hW4
  clear hb3 B3 RC3 B4 RC4 RR4 hW4 S4
  go_wp2_with fail
  rw [HW4.out]
  refine (HU.out _ HA4.out).mono ?_
  rintro e w5 ⟨ga, ca, rfl, hga, hca, hPa, hb5⟩
  have s5 := hb5.size
  have HPa := Lib.hid hPa
  have HB5 := Lib.hid hb5
  have hgal := Pre.lt hPa
  have hr9 : (0 : Int) ≤ (bl : Int) := by omega
  clear hPa hb5
  go_wp2_with fail
  refine (HU2.out _).mono ?_
  rintro e w6 ⟨gb, cb, rfl, hgb, hcb, hPb, hb6⟩
  have s6 := hb6.size
  have hgbl := Pre.lt hPb
  rw [rs_self] at HPa
  rw [rs_nil, ← fill_zero] at hPb
  have HPa6 := Lib.hid (HPa.out.below hb6 hgal)
  have HB6 := Lib.hid (HB5.out.trans (hb6.mono (by omega)))
  have hgab : ga ≠ gb := by omega
  have HPb := Lib.hid hPb
  clear hPb hb6
  go_wp2
  go_loopw [20] (fun i wr => RelF gb cb bl w6 i wr) (fun i _ => bl - (intOf i).toNat)
  case atStart => exact ⟨0, Nat.zero_le _, rfl, HPb.out, Turns.refl _ _⟩
  case round =>
    obtain ⟨j, hj, rfl, hP, hT⟩ := hrel
    rcases Nat.lt_or_ge j bl with h6 | h6
    · have hkb : decide ((j : Int) < (bl : Int)) = true := decide_eq_true (by omega)
      obtain ⟨c0, -, -⟩ := Pre.upd hP (fill_get h6)
      have f0 := hP.free (j * 3)
      have PZ := Lib.hid (Pre.fill hP h6)
      have TZ := Lib.hid (hT.setCell (p := ⟨gb, j * 3, none⟩) rfl (.int .u32 99))
      have hgw := Pre.lt hP
      clear hP hT
      go_wp2
      go_roundw
      case rel => exact ⟨j + 1, by omega, by go_num, PZ.out, TZ.out⟩
      case measure => simp [intOf]; omega
    · obtain rfl : j = bl := by omega
      have hkb : decide ((j : Int) < (j : Int)) = false := by simp
      rename World => w7
      rw [fill_all] at hP
      have hs7 := hT.size
      have P7a := HPa6.out.same (hT.block ga (by omega) (by intro e; exact hgab e))
      have B7 := HB6.out.trans (hT.below (n := W4.heap.size) (by omega) (fun k h => by omega))
      have H7 := Lib.hid (And.intro P7a (And.intro hP B7))
      have hgal7 := Pre.lt P7a
      have hgbl7 := Pre.lt hP
      clear hP hT P7a B7
      have RC7 := H4.out.2.1.below H7.out.2.2 H4.out.2.1.lt
      have c0 := RC7.get (i := 0) rfl
      have c1 := RC7.get (i := 1) rfl
      have c2 := RC7.get (i := 2) rfl
      have c3 := RC7.get (i := 3) rfl
      simp only [List.getElem_toArray, List.getElem_cons_zero, List.getElem_cons_succ] at c0 c1 c2 c3
      have hsh := Lib.hid (shufAny n' k' q r HG.out parts fan us ga gb ca cb j hr hca hcb hgab w7 w7 ⟨H7.out.1, H7.out.2.1, Below.refl _ _⟩)
      unfold pf rg at hsh
      have HR7 := Lib.hid (H4.out.2.2.below H7.out.2.2 H4.out.2.2.lt)
      clear RC7
      go_wp2_with fail
      refine hsh.out.mono ?_
      rintro en w8 ⟨fr, st, e, rfl, hcut⟩
      have hst := Lib.hid (fun W => refSt parts fan W)
      have HC := Lib.hid hcut
      clear hcut c0 c1 c2 c3
      go_wp2_with fail
      refine (hst.out _).mono ?_
      rintro e2 w9 ⟨sg, rfl, hsg, rfl⟩
      have HSG := Lib.hid hsg
      clear hsg
      obtain ⟨fc, hfc⟩ : ∃ fc, fcode parts fan = fc := ⟨_, rfl⟩
      rw [hfc]
      have HFC := Lib.hid hfc
      clear hfc
      go_upto_region 12 with fail
      go_cut [103] (fun b wx => b = .bool (decide (fc = 0 ∧ j < us.length)) ∧ wx = w8)
      case first =>
        --<<
        as_aux_lemma =>
          by_cases g1 : fc = 0
          · have t1 : (fc == 0) = true := by simpa using g1
            by_cases g2 : j < us.length
            · have HT := Lib.hid (show true = decide (fc = 0 ∧ j < us.length) from (decide_eq_true ⟨g1, g2⟩).symm)
              have t2 : decide ((j : Int) < (us.length : Int)) = true := decide_eq_true (by omega)
              have t3 : decide (j < us.length) = true := decide_eq_true g2
              clear g1 g2
              go_wp2
              go_meet
              exact ⟨congrArg Value.bool HT.out, rfl⟩
            · have HT := Lib.hid (show false = decide (fc = 0 ∧ j < us.length) from (decide_eq_false (fun h => g2 h.2)).symm)
              have t3 : decide (j < us.length) = false := decide_eq_false g2
              clear g1 g2
              go_wp2
              go_meet
              exact ⟨congrArg Value.bool HT.out, rfl⟩
          · have t1 : (fc == 0) = false := by simpa using g1
            have HT := Lib.hid (show false = decide (fc = 0 ∧ j < us.length) from (decide_eq_false (fun h => g1 h.1)).symm)
            clear g1
            go_wp2
            go_meet
            exact ⟨congrArg Value.bool HT.out, rfl⟩
        -->>
      case rest =>
        obtain ⟨rfl, hwc⟩ := hcut
        rw [hwc]
        clear hwc
        obtain ⟨tb, htb⟩ : ∃ tb, decide (fc = 0 ∧ j < us.length) = tb := ⟨_, rfl⟩
        rw [htb]
        obtain ⟨F0, hF0⟩ : ∃ F0, err0 parts fan us.length j = F0 := ⟨_, rfl⟩
        have HF0 := Lib.hid (show F0 = if tb = true then 94 else fc by
          rw [← hF0, ← htb]; unfold err0; rw [HFC.out]; simp)
        have HF1 := Lib.hid hF0
        clear hF0 htb
        go_upto_if 103 with (fail)
        go_cut [25] (fun f wx => f = .int .i64 F0 ∧ wx = w8)
        case first =>
          --<<
          as_aux_lemma =>
            cases tb
            · obtain rfl : F0 = fc := by simpa using HF0.out
              go_wp2
              go_meet
              exact ⟨rfl, rfl⟩
            · obtain rfl : F0 = 94 := by simpa using HF0.out
              go_wp2
              go_meet
              exact ⟨rfl, rfl⟩
          -->>
        case rest =>
          obtain ⟨rfl, hwc⟩ := hcut
          rw [hwc]
          clear hwc
          obtain ⟨i0, hi, hz0, hz1, hz2⟩ := info_parts infoI'
          have HX8 := Lib.hid (cutA_world HC.out)
          have hs78 := HX8.out.size
          have HA8 := Lib.hid (show Lay w8 W4.heap.size A (ucs us) from (HA4.out.below H7.out.2.2).below (HX8.out.t.below (n := W4.heap.size) H7.out.2.2.size (fun k h => by omega)))
          have HR8 := Lib.hid (HX8.out.t.row HR7.out (by have := H4.out.2.2.lt; omega))
          go_wp2
          go_loopw [26, 27] (fun v i wr => RelAt n' q r us w8 v i wr) (fun _ i _ => us.length - (intOf i).toNat)
          case atStart => exact ⟨0, Nat.zero_le _, rfl, World.ownsRow_nil _ _ _ _, Below.refl _ _⟩
          case round =>
            obtain ⟨i, hi9, rfl, hown, hl⟩ := hrel
            rename World => wr
            rcases Nat.lt_or_ge i us.length with h8 | h8
            · skip
              --<<
              as_aux_lemma =>
                have hkb2 : decide ((i : Int) < (us.length : Int)) = true := decide_eq_true (by omega)
                obtain ⟨x, hx⟩ : ∃ x, us[i]? = some x := ⟨_, List.getElem?_eq_getElem h8⟩
                obtain ⟨b, off, rfl, hbB, c0, -, -⟩ := lay_upd (HA8.out.below (hl.mono (by omega))) hx
                have RR := HR8.out.below hl HR8.out.lt
                have q0 := RR.get (i := 0) rfl
                have q1 := RR.get (i := 1) rfl
                simp only [List.getElem_toArray, List.getElem_cons_zero, List.getElem_cons_succ] at q0 q1
                have htk : pv (psL n' q r (us.take (i + 1))) = pv (psL n' q r (us.take i)) ++ [.int .i64 (Cut.part n' q r x.t)] := by
                  obtain ⟨hj', e⟩ := List.getElem?_eq_some_iff.1 hx
                  rw [List.take_succ_eq_append_getElem hj', e]; simp [pv, psL]
                have hpart := Lib.hid (fun W => refAny n' k' q r x.t HG.out x.tb.1 W)
                have HTK := Lib.hid htk
                have HO := Lib.hid (And.intro hown hl)
                have hszw := hl.size
                have hi0 : (0 : Int) ≤ (i : Int) := by omega
                obtain ⟨xt, hxt⟩ : ∃ xt, x.t = xt := ⟨_, rfl⟩
                rw [hxt] at c0 hpart HTK
                clear hx htk hown hl RR hxt
                have hRl8 := HR8.out.lt
                have hRl := HR8.out.below HO.out.2 HR8.out.lt |>.lt
                have hKB := Lib.hid (fun X (h : Below wr.heap.size wr X) => (show X.cell? ⟨b, off + i * 3, none⟩ = some (.int .u32 xt) ∧ X.cell? ⟨w3.heap.size, 0, none⟩ = some (.int .u32 n') ∧ X.cell? ⟨w3.heap.size, 1, none⟩ = some (.int .i64 k') from
                  ⟨(h.cell (p := ⟨b, off + i * 3, none⟩) (by show b < wr.heap.size; have := H7.out.2.2.size; omega)).trans c0, (h.cell (p := ⟨w3.heap.size, 0, none⟩) hRl).trans q0, (h.cell (p := ⟨w3.heap.size, 1, none⟩) hRl).trans q1⟩))
                have hS0 := hKB.out wr (Below.refl _ _)
                clear c0 q0 q1
                go_wp2
                go_region_held3 (fun X => X.cell? ⟨b, off + i * 3, none⟩ = some (.int .u32 xt) ∧ X.cell? ⟨w3.heap.size, 0, none⟩ = some (.int .u32 n') ∧ X.cell? ⟨w3.heap.size, 1, none⟩ = some (.int .i64 k'))
                  (first
                    | with_reducible exact hS12
                    | with_reducible exact hKB.out _ (hB10.alloc hB10.size _)
                    | with_reducible exact hKB.out _ hB10
                    | with_reducible exact hKB.out _ (Below.refl _ wr).drew
                    | exact hS0)
                  (first
                    | (refine step_append_lies _ rfl _ _ 59 rfl w8.heap.size 3 i0 (.int .i64 0) 1 8 Try.underlying59 hi hz0 hz1 hz2 rfl (by decide) _ i _ rfl (hown10.alloc _) ⟨w10.heap.size, 0, none⟩ 1 1 [.int .i64 (Cut.part n' q r xt)] rfl rfl (World.news_of_block (cs := #[.int .i64 (Cut.part n' q r xt)]) (heap_alloc_new w10 _)) (by intro u hu; rw [List.mem_singleton.1 hu]; rfl) (by decide) (by unfold maxLen; omega) (by omega) (by simp only [World.size_alloc]; omega) _ rfl ?_
                       intro g cap w12 hown12 hgrow12 hat12 hlt12
                       have hS12 := And.intro (hgrow12.cell ((hKB.out _ (hB10.alloc hB10.size (.cells #[.int .i64 (Cut.part n' q r xt)] 3))).1) (fun e => by have := (hown10.lt _ e.symm).1; have h9 := H7.out.2.2.size; simp only at this; omega)) (And.intro (hgrow12.cell ((hKB.out _ (hB10.alloc hB10.size (.cells #[.int .i64 (Cut.part n' q r xt)] 3))).2.1) (fun e => by have := (hown10.lt _ e.symm).1; simp only at this; omega)) (hgrow12.cell ((hKB.out _ (hB10.alloc hB10.size (.cells #[.int .i64 (Cut.part n' q r xt)] 3))).2.2) (fun e => by have := (hown10.lt _ e.symm).1; simp only at this; omega))))
                    | (go_simp; go_at_call 25
                       refine (hpart.out _).mono ?_
                       rintro ee w10 ⟨rfl, hb10⟩
                       have hs10 := hb10.size
                       simp only [World.size_drew] at hs10
                       have hB10 : Below wr.heap.size wr w10 := (Below.refl _ wr).drew.trans hb10
                       have hown10 : w10.ownsRow w8.heap.size 3 1 _ i _ := own_below HO.out.1 hB10))
                have hl10 := HO.out.2.trans (hB10.mono HO.out.2.size)
                have H11 := Lib.hid (And.intro hown12 ((hl10.alloc hl10.size (.cells #[.int .i64 (Cut.part n' q r xt)] 3)).grown hgrow12 (by have := hl10.size; simp only [World.size_alloc]; omega) (fun g' hg' => (hown10.lt g' hg').1)))
                clear hown12 hgrow12 hat12 hlt12 hS12 hB10 hown10 hl10 hb10 hS0
                go_wp2
                go_roundw
                case rel => exact ⟨i + 1, by omega, by go_num, by rw [HTK.out]; exact H11.out.1, H11.out.2⟩
                case measure => simp [intOf]; omega
              -->>
            · obtain rfl : i = us.length := by omega
              have hkb2 : decide ((us.length : Int) < (us.length : Int)) = false := by simp
              rw [List.take_length] at hown
              obtain ⟨Ap, cp, rfl, -, -, hlp⟩ := lay_of_own hown
              have HP := Lib.hid (And.intro hlp hl)
              have hszw := hl.size
              clear hown hlp hl
              go_upto_if 121 with (fail)
              go_cut [25, 28, 29] (fun f ord want wx => CutB n' q r us ga gb ca cb j parts sg (.slice (some ⟨ga, 0, none⟩) us.length ca) (.slice (some ⟨gb, 0, none⟩) us.length us.length) fr st e w f ord want wx)
              case first =>
                --<<
                as_aux_lemma =>
                  have hBw8 : Below w.heap.size w w8 := (H4.out.1.trans (H7.out.2.2.mono H4.out.1.size)).trans (HX8.out.t.below (n := w.heap.size) (by have := H7.out.2.2.size; have := H4.out.1.size; omega) (fun k h => by have := H4.out.1.size; omega))
                  have hlp := HP.out.1
                  have hBwr := Lib.hid (hBw8.trans (HP.out.2.mono hBw8.size))
                  rcases HC.out with ⟨g0, rfl, rfl, rfl, hQ⟩ | ⟨g0, kk, fn, rfl, rfl, hk1, hk2, hf1, hf2, hml, hcs⟩
                  · rw [HF1.out] at g0
                    have t1 : (F0 == 0) = false := by simpa using g0
                    have HZ := Lib.hid (And.intro g0 (And.intro (hQ.a.below HP.out.2 (Pre.lt hQ.a)) (hQ.b.below HP.out.2 (Pre.lt hQ.b))))
                    rw [t1]
                    clear g0 hQ hBw8 hlp
                    go_wp2
                    go_meet
                    exact ⟨hBwr.out, F0, rfl, by rw [HF1.out], .inl ⟨HZ.out.1, rfl, rfl, HZ.out.2.1, HZ.out.2.2⟩⟩
                  · rw [HF1.out] at g0
                    subst g0
                    have t1 : ((0 : Int) == 0) = true := rfl
                    rw [t1]
                    have hps := psL_length n' q r us
                    have hord := Lib.hid (hps ▸ order (psL n' q r us) kk hk1 hk2 Ap cp (by rw [psL_length]; omega) wr hlp)
                    have HCS := Lib.hid hcs
                    clear hcs hBw8 hlp hps t1
                    go_wp2_with fail
                    refine hord.out.mono ?_
                    rintro en w13 (⟨hbad, rfl, hb13⟩ | hok)
                    · rcases HCS.out with ⟨hbad', rfl, rfl, rfl, hQ⟩ | ⟨rfl, s, hS⟩
                      · have HZ := Lib.hid (And.intro (hBwr.out.trans (hb13.mono hBwr.out.size)) (And.intro (((hQ.a.below HP.out.2 (Pre.lt hQ.a)).below hb13 (Nat.lt_of_lt_of_le (Pre.lt hQ.a) HP.out.2.size))) (((hQ.b.below HP.out.2 (Pre.lt hQ.b)).below hb13 (Nat.lt_of_lt_of_le (Pre.lt hQ.b) HP.out.2.size)))))
                        clear hbad hbad' hb13 hQ
                        go_wp2
                        go_meet
                        exact ⟨HZ.out.1, 93, rfl, rfl, .inl ⟨by decide, rfl, rfl, HZ.out.2.1, HZ.out.2.2⟩⟩
                      · exact absurd ((bad_order n' q r us kk).2 hbad) (fun ⟨x, hx, h⟩ => h (hS.ok x hx))
                    · rcases HCS.out with ⟨hbad', -⟩ | ⟨rfl, s, hS⟩
                      · obtain ⟨x, hx, h⟩ := (bad_order n' q r us kk).1 hbad'
                        exact absurd h (hok.ok x hx)
                      · obtain ⟨Ao, As, co, cs0, rfl, hlo, hls⟩ := hok.val
                        obtain ⟨gc, fr', to_, T, hen, hgc, hrc, hTl, hpar⟩ := hS.gc
                        injection hen with hen
                        injection hen with hen
                        have hfr : fr = fr' := Option.some.inj (show some fr = some fr' from congrArg (fun a : Array Value => a[0]?) hen)
                        have hst2 : st = .slice (some ⟨gc, 0, none⟩) (kk + 1) (kk + 1) := Option.some.inj (show some st = some _ from congrArg (fun a : Array Value => a[1]?) hen)
                        subst hfr hst2
                        have hfull := ord_full hS.ok
                        obtain ⟨s', hs', hss⟩ := HSG.out kk fn rfl rfl (by
                          have := HFC.out; rw [this]; have h9 := HF0.out
                          cases tb
                          · simpa using h9.symm
                          · simp at h9)
                        have hsame := isSt_one hS.st hss
                        subst hsame
                        have hb8 := HP.out.2
                        have hb13 := hok.b
                        have key : ∀ {g c : Nat} {xs : List Value}, Pre w8 g 55 c xs → Pre w13 g 55 c xs := fun h => (h.below hb8 (Pre.lt h)).below hb13 (Nat.lt_of_lt_of_le (Pre.lt h) hb8.size)
                        rw [starts_order] at hrc
                        rw [bucket_order] at hpar
                        have hgd : gc ≠ ga ∧ gc ≠ gb := ⟨by omega, by omega⟩
                        rw [hfull]
                        have HG2 := Lib.hid (show GoodB n' q r us ga gb ca cb j kk sg (.slice (some ⟨ga, 0, none⟩) us.length ca) (.slice (some ⟨gb, 0, none⟩) us.length us.length) fr (.slice (some ⟨gc, 0, none⟩) (kk + 1) (kk + 1)) (.slice Ao us.length co) (.slice As (kk + 1) cs0) w13 from
                          ⟨kk, s, gc, co, cs0, Ao, As, T, rfl, hk2, hml, hs', rfl, (hrc.below hb8 hrc.lt).below hb13 (Nat.lt_of_lt_of_le hrc.lt hb8.size), hfull, rfl, hlo, rfl, hls, hTl, hgd.1, hgd.2, fun i hi => by have := mem_ord hi; rwa [psL_length] at this, by
                            rcases hpar with ⟨p1, p2, p3, p4⟩ | ⟨p1, p2, p3, p4⟩
                            · exact .inl ⟨p1, p2, key p3, by rw [ucs_append, List.append_assoc]; exact key p4⟩
                            · exact .inr ⟨p1, p2, by rw [ucs_append, List.append_assoc]; exact key p3, key p4⟩⟩)
                        have HBZ := Lib.hid (hBwr.out.trans (hb13.mono hBwr.out.size))
                        clear hok hS hlo hls hrc hpar hfull hen hs' hss hb8 hb13 key hTl hgd
                        go_wp2
                        go_meet
                        exact ⟨HBZ.out, 0, rfl, rfl, .inr ⟨rfl, HG2.out⟩⟩
                -->>
              case rest =>
                as_aux_lemma =>
                  obtain ⟨hBw, F1, rfl, rfl, hd⟩ := hcut
                  rename World => wc
                  have hcom : ∃ La Lb : List U3, La.length = us.length ∧ Lb.length = j ∧ Pre wc ga 55 (ca * 3) (ucs La ++ marks) ∧ Pre wc gb 55 (cb * 3) (ucs Lb ++ marks) ∧ ∀ i, us.length ≤ i → i < j → Lb[i]? = some Shuf.u99 := by
                    rcases hd with ⟨-, -, -, h1, h2⟩ | ⟨-, hG⟩
                    · exact ⟨us, List.replicate j Shuf.u99, rfl, List.length_replicate, h1, h2, fun i _ hi => by rw [List.getElem?_replicate, if_pos hi]⟩
                    · obtain ⟨k2, s, gc, co, cs0, Ao, As, T, -, -, hml, -, -, -, hfull, -, -, -, -, hTl, -, -, -, hpar⟩ := hG.d
                      rcases hpar with ⟨-, -, h1, h2⟩ | ⟨-, -, h1, h2⟩
                      · exact ⟨_, _, by simpa using hfull, by simp [hTl]; omega, h1, h2, fun i hi1 hi2 => by rw [List.getElem?_append_right (by omega), List.getElem?_replicate, if_pos (by omega)]⟩
                      · exact ⟨_, _, hTl, by simp [hfull]; omega, h2, h1, fun i hi1 hi2 => by rw [List.getElem?_append_right (by simp; omega), List.getElem?_replicate, if_pos (by simp; omega)]⟩
                  obtain ⟨La, Lb, hLa, hLb, hPa, hPb, hL9⟩ := hcom
                  have HD := Lib.hid (And.intro hBw hd)
                  have HPB := Lib.hid (And.intro hPa (And.intro hPb hL9))
                  have hgac := Pre.lt hPa
                  have hgbc := Pre.lt hPb
                  have hAc := Lib.hid (show Lay wc w.heap.size A (ucs us) from HA.out.below hBw)
                  have hBws := hBw.size
                  clear hBw hd hPa hPb hL9
                  go_wp2_with fail
                  refine (marked' ga us.length ca (ucs La) (by rw [ucs_length, hLa]) hca (by omega) _ HPB.out.1).mono ?_
                  rintro e20 w20 ⟨rfl, hb20⟩
                  have HB20 := Lib.hid hb20
                  have hs20 := hb20.size
                  clear hb20
                  go_wp2_with fail
                  refine (marked' gb j cb (ucs Lb) (by rw [ucs_length, hLb]) hcb (by omega) _ (HPB.out.2.1.below HB20.out hgbc)).mono ?_
                  rintro e21 w21 ⟨rfl, hb21⟩
                  have HB21 := Lib.hid (HB20.out.trans (hb21.mono hs20))
                  have hs21 := hb21.size
                  clear hb21
                  go_wp2_with fail
                  refine (num F1 _).mono ?_
                  rintro e22 w22 ⟨rfl, hb22⟩
                  have HB22 := Lib.hid (HB21.out.trans (hb22.mono (by omega)))
                  have hs22 := hb22.size
                  have hF1 : (F1 != F1) = false := by simp
                  clear hb22
                  go_wp2
                  go_loopw [35] (fun i wr => RelK us.length j wc i wr) (fun i _ => j - (intOf i).toNat)
                  case atStart => exact ⟨us.length, Nat.le_refl _, rfl, HB22.out⟩
                  case round =>
                    obtain ⟨i, hi9, rfl, hb⟩ := hrel
                    rename World => w23
                    rcases Nat.lt_or_ge i j with h9 | h9
                    · have hkb9 : decide ((i : Int) < (j : Int)) = true := decide_eq_true (by omega)
                      obtain ⟨c0, -, -⟩ := Pre.upd (HPB.out.2.1.below hb hgbc) (HPB.out.2.2 i hi9 h9)
                      unfold Shuf.u99 at c0
                      dsimp only at c0
                      have hgl : gb < w23.heap.size := Nat.lt_of_lt_of_le hgbc hb.size
                      have HBB := Lib.hid hb
                      clear hb
                      go_wp2
                      go_roundw
                      case rel => exact ⟨i + 1, by omega, by go_num, HBB.out⟩
                      case measure => simp [intOf]; omega
                    · have hkb9 : decide ((i : Int) < (j : Int)) = false := decide_eq_false (by omega)
                      have HB23 := Lib.hid hb
                      have hs23 := hb.size
                      clear hb
                      rcases HD.out.2 with ⟨g0, rfl, rfl, h1, h2⟩ | ⟨rfl, hG⟩
                      · --<<
                        as_aux_lemma =>
                          have t1 : (F1 != 0) = true := by simpa using g0
                          have h1' := h1.below HB23.out hgac
                          have h2' := Lib.hid (h2.below HB23.out hgbc)
                          have hs1 := Lib.hid (samed (some ⟨ga, 0, none⟩) A us ca ucap (by omega) w23 ((Pre.short h1').lay.more (by omega)) ((hAc.out.more hBws).below HB23.out |>.more hs23))
                          clear g0 h1 h2 h1'
                          go_wp2_with fail
                          refine hs1.out.mono ?_
                          rintro e24 w24 ⟨rfl, hb24⟩
                          have HB24 := Lib.hid (HB23.out.trans (hb24.mono hs23))
                          have hb24s := hb24.size
                          have hun := Lib.hid (untouched gb j cb (cb * 3) marks (by omega) w24 (h2'.out.below hb24 (by omega)))
                          clear hb24
                          go_wp2_with fail
                          refine hun.out.mono ?_
                          rintro e25 w25 ⟨rfl, hb25⟩
                          have HB25 := Lib.hid (HD.out.1.trans ((HB24.out.trans (hb25.mono (by omega))).mono HD.out.1.size))
                          clear hb25
                          go_wp2
                          go_ret
                          exact ⟨rfl, HB25.out⟩
                        -->>
                      · obtain ⟨k2, s, gc, co, cs0, Ao, As, T, rfl, hk512, hml, rfl, rfl, hrc, hfull, rfl, hlo, rfl, hls, hTl, hgd1, hgd2, hmem, hpar⟩ := hG.d
                        obtain ⟨L, hL⟩ : ∃ L, ((ordL (psL n' q r us) k2).map fun i => us.getD i u0) = L := ⟨_, rfl⟩
                        rw [hL] at hpar
                        have hLl : L.length = us.length := by rw [← hL, List.length_map]; exact hfull
                        obtain ⟨gi, ci, rest, hfrE, hgi, hPi⟩ := pick hpar
                        subst hfrE
                        have hgiw : gi < wc.heap.size := by rcases hgi with rfl | rfl <;> assumption
                        have HI := Lib.hid hPi
                        have HO2 := Lib.hid (And.intro hlo hls)
                        have HRC := Lib.hid hrc
                        have HPAR := Lib.hid hpar
                        have HLL := Lib.hid (And.intro hL (And.intro hfull hmem))
                        have l1 : ((us.length : Int) != (us.length : Int)) = false := by simp
                        have l2 : (((k2 + 1 : Nat) : Int) != ((k2 + 1 : Nat) : Int)) = false := by simp
                        clear hPi hlo hls hrc hpar hL hfull hmem
                        go_wp2
                        go_loopw [37] (fun i wr => RelL us.length wc i wr) (fun i _ => us.length - (intOf i).toNat)
                        case atStart => exact ⟨0, Nat.zero_le _, rfl, HB23.out⟩
                        case round =>
                          clear HB23
                          obtain ⟨i, hi9, rfl, hb⟩ := hrel
                          rename World => w30
                          rcases Nat.lt_or_ge i us.length with h9 | h9
                          · --<<
                            as_aux_lemma =>
                              have hkb9 : decide ((i : Int) < (us.length : Int)) = true := decide_eq_true (by omega)
                              have k0 : (0 : Int) ≤ (i : Int) := by omega
                              obtain ⟨o, ho⟩ : ∃ o, (ordL (psL n' q r us) k2)[i]? = some o := ⟨_, List.getElem?_eq_getElem (by rw [HLL.out.2.1]; exact h9)⟩
                              have hom := HLL.out.2.2 o (List.mem_of_getElem? ho)
                              obtain ⟨x, hx⟩ : ∃ x, us[o]? = some x := ⟨_, List.getElem?_eq_getElem hom⟩
                              have hLx : L[i]? = some x := by rw [← HLL.out.1, List.getElem?_map, ho]; simp [List.getD_eq_getElem?_getD, hx]
                              obtain ⟨capi, hPi⟩ := HI.out
                              obtain ⟨c0, c1, c2⟩ := Pre.upd (hPi.below hb hgiw) hLx
                              obtain ⟨b2, o2, rfl, hb2, d0, d1, d2⟩ := lay_upd (hAc.out.below (hb.mono hBws)) hx
                              obtain ⟨b3, o3, rfl, hb3, e0⟩ := lay_iv (HO2.out.1.below hb) ho
                              have he := fun W => neq_self x W
                              have k1 : (0 : Int) ≤ (o : Int) := by omega
                              have k2' : (o : Int) < (us.length : Int) := by omega
                              have HBB := Lib.hid hb
                              clear hx hb ho hLx hPi
                              go_wp2
                              go_quiet (fail)
                              go_wp2
                              go_roundw
                              case rel => exact ⟨i + 1, by omega, by go_num, below_drewN HBB.out _⟩
                              case measure => simp [intOf]; omega
                            -->>
                          · have hkb9 : decide ((i : Int) < (us.length : Int)) = false := decide_eq_false (by omega)
                            have HB30 := Lib.hid hb
                            clear hb
                            go_wp2
                            go_loopw [38] (fun i wr => RelL (k2 + 1) wc i wr) (fun i _ => k2 + 1 - (intOf i).toNat)
                            case atStart => exact ⟨0, Nat.zero_le _, rfl, HB30.out⟩
                            case round =>
                              clear HB30
                              obtain ⟨i2, hi2, rfl, hb⟩ := hrel
                              rename World => w31
                              rcases Nat.lt_or_ge i2 (k2 + 1) with h8 | h8
                              · --<<
                                as_aux_lemma =>
                                  have hkb8 : decide ((i2 : Int) < ((k2 + 1 : Nat) : Int)) = true := decide_eq_true (by omega)
                                  have k0 : (0 : Int) ≤ (i2 : Int) := by omega
                                  obtain ⟨z, hz⟩ : ∃ z, (stsL (psL n' q r us) k2)[i2]? = some z := ⟨_, List.getElem?_eq_getElem (by simp [stsL]; omega)⟩
                                  obtain ⟨b3, o3, rfl, hb3, e0⟩ := lay_iv (HO2.out.2.below hb) hz
                                  have c0 := (HRC.out.below hb HRC.out.lt).get (i := i2) (v := .int .i64 z) (by simp [ic, hz])
                                  have hzz : ((z : Int) != (z : Int)) = false := by simp
                                  have HBB := Lib.hid hb
                                  clear hz hb
                                  go_wp2
                                  go_quiet (fail)
                                  go_wp2
                                  go_roundw
                                  case rel => exact ⟨i2 + 1, by omega, by go_num, below_drewN HBB.out _⟩
                                  case measure => simp [intOf]; omega
                                -->>
                              · have hkb8 : decide ((i2 : Int) < ((k2 + 1 : Nat) : Int)) = false := decide_eq_false (by omega)
                                have HB31 := Lib.hid hb
                                have hs31 := hb.size
                                clear hb
                                by_cases hm0 : us.length = 0
                                · have hp0 : decide ((us.length : Int) > 0) = false := decide_eq_false (by omega)
                                  have hp1 : decide ((0 : Int) < (us.length : Int)) = false := decide_eq_false (by omega)
                                  go_wp2
                                  go_ret
                                  exact ⟨rfl, HD.out.1.trans (HB31.out.mono HD.out.1.size)⟩
                                · have hp0 : decide ((us.length : Int) > 0) = true := decide_eq_true (by omega)
                                  have hp1 : decide ((0 : Int) < (us.length : Int)) = true := decide_eq_true (by omega)
                                  obtain ⟨x, hx⟩ : ∃ x, L[0]? = some x := ⟨_, List.getElem?_eq_getElem (by rw [hLl]; omega)⟩
                                  obtain ⟨capi, hPi⟩ := HI.out
                                  have hPi31 := hPi.below HB31.out hgiw
                                  obtain ⟨c0, c1, c2⟩ := Pre.upd hPi31 hx
                                  have f1 := hPi31.free 1
                                  have hgi31 : gi < w31.heap.size := Nat.lt_of_lt_of_le hgiw hs31
                                  simp only [Nat.zero_mul, Nat.zero_add] at c0 c1 c2
                                  have hL1 := Lib.hid hx
                                  clear hx hPi31 hPi
                                  go_upto_region 53 with fail
                                  obtain ⟨V, hV⟩ : ∃ V, IntKind.u64.wrap (x.a + 1) = V := ⟨_, rfl⟩
                                  rw [hV]
                                  have HB32 := Lib.hid (HD.out.1.trans (HB31.out.mono HD.out.1.size))
                                  rcases HPAR.out with ⟨p1, p2, p3, p4⟩ | ⟨p1, p2, p3, p4⟩
                                  · have P32 := set_one (p3.below HB31.out hgac) hL1.out V
                                    injection p2 with e1 e2 e3
                                    injection e1 with e1
                                    injection e1 with e1
                                    subst e1 e3
                                    have hst : (s : Int).tmod 2 = 0 := by rw [Int.tmod_eq_emod_of_nonneg (by omega)]; omega
                                    have hB33 := Lib.hid (HB32.out.setCell (p := ⟨gi, 1, none⟩) (by simp only; omega) (.int .u64 V))
                                    obtain ⟨w32, hw32⟩ : ∃ w32, w31.setCell ⟨gi, 1, none⟩ (.int .u64 V) = w32 := ⟨_, rfl⟩
                                    rw [hw32] at P32 hB33 ⊢
                                    have b0 := P32.get (i := 0) rfl
                                    have b1 := P32.get (i := 1) rfl
                                    have b2 := P32.get (i := 2) rfl
                                    have he := fun W => eq_raw x.t V x.b W
                                    clear c0 c1 c2 f1 hw32 P32 p1 p3 p4 hV
                                    go_wp2
                                    go_quiet (fail)
                                    go_wp2
                                    go_ret
                                    exact ⟨rfl, below_drewN hB33.out _⟩
                                  · as_aux_lemma =>
                                      have P32 := set_one (p3.below HB31.out hgbc) (L := L ++ List.replicate (j - us.length) Shuf.u99) (by rw [List.getElem?_append_left (by omega)]; exact hL1.out) V
                                      injection p2 with e1 e2 e3
                                      injection e1 with e1
                                      injection e1 with e1
                                      subst e1 e3
                                      have hst : (s : Int).tmod 2 = 1 := by rw [Int.tmod_eq_emod_of_nonneg (by omega)]; omega
                                      have hB33 := Lib.hid (HB32.out.setCell (p := ⟨gi, 1, none⟩) (by simp only; omega) (.int .u64 V))
                                      obtain ⟨w32, hw32⟩ : ∃ w32, w31.setCell ⟨gi, 1, none⟩ (.int .u64 V) = w32 := ⟨_, rfl⟩
                                      rw [hw32] at P32 hB33 ⊢
                                      have b0 := P32.get (i := 0) rfl
                                      have b1 := P32.get (i := 1) rfl
                                      have b2 := P32.get (i := 2) rfl
                                      have he := fun W => neq_raw x.t V x.b W
                                      have HP32 := Lib.hid P32
                                      obtain ⟨iu, hiu, hu0, hu1, hu2⟩ := info_parts infoU
                                      have HIU := Lib.hid (And.intro hu0 (And.intro hu1 hu2))
                                      have hg32 := Pre.lt P32
                                      have hLt : L.length = L.tail.length + 1 := by rw [List.length_tail]; omega
                                      obtain ⟨OLD, hOLD⟩ : ∃ OLD, Value.int .u32 x.t :: .int .u64 V :: .int .u64 x.b :: ucs L.tail = OLD := ⟨_, rfl⟩
                                      have hOl : OLD.length = us.length * 3 := by rw [← hOLD]; simp only [List.length_cons, ucs_length]; omega
                                      have hOc : ∀ jj u, OLD[jj]? = some u → w32.cell? ⟨gi, jj, none⟩ = some u := fun jj u hu => HP32.out.get (by
                                        rw [List.tail_append_of_ne_nil (by intro h0; rw [h0] at hLl; simp at hLl; omega), ucs_append]
                                        have := (List.getElem?_append_left (l₂ := ucs (List.replicate (j - us.length) Shuf.u99) ++ marks) (by exact (List.getElem?_eq_some_iff.1 hu).1)).trans hu
                                        rw [← hOLD] at this
                                        simpa [List.append_assoc] using this)
                                      have HOC := Lib.hid hOc
                                      clear c0 c1 c2 f1 hw32 P32 p1 p3 p4 hV hOc hu0 hu1 hu2 hOLD
                                      go_wp2
                                      go_quiet (fail)
                                      go_upto_region 57 with fail
                                      obtain ⟨w33, hw33⟩ : ∃ w33, w32.drewN nq = w33 := ⟨_, rfl⟩
                                      have B33 := Lib.hid (show Below w32.heap.size w32 w33 from hw33 ▸ below_drewN (Below.refl _ _) _)
                                      have s33 := B33.out.size
                                      rw [hw33]
                                      clear b0 b1 b2 he hw33
                                      go_wp2_with (at_builtin; refine append_full rfl _ _ 57 55 rfl iu (.agg #[.int .u32 0, .int .u64 0, .int .u64 0]) 3 24 Try.underlying57 hiu HIU.out.1 HIU.out.2.1 HIU.out.2.2 ⟨gi, 0, none⟩ us.length OLD rfl hOl ?c1 ⟨w33.heap.size, 0, none⟩ 1 1 [.int .u32 55, .int .u64 0, .int .u64 0] rfl ?c2 ?c3 ?c4 ?c5 ?c6 ?_)
                                      case c1 =>
                                        intro jj u hu
                                        rw [Go.WideShapes.add_plain, Nat.zero_add]
                                        exact (World.cell?_alloc_lt _ _ ⟨gi, jj, none⟩ (Nat.lt_of_lt_of_le hg32 s33)).trans ((B33.out.cell (p := ⟨gi, jj, none⟩) hg32).trans (HOC.out jj u hu))
                                      case c2 => rfl
                                      case c3 =>
                                        intro jj u hu
                                        have := (Row.new w33 55 #[.int .u32 55, .int .u64 0, .int .u64 0]).get (i := jj) (v := u) (by simpa using hu)
                                        rw [Go.WideShapes.add_plain, Nat.zero_add]
                                        exact this
                                      case c4 => decide
                                      case c5 => unfold maxLen; omega
                                      case c6 => omega
                                      intro v' w34 hv34 hb34
                                      obtain ⟨gcap, hgcap⟩ : ∃ gcap, grownCap (w33.alloc (.cells #[.int .u32 55, .int .u64 0, .int .u64 0] 55)) (us.length + 1) us.length 55 = gcap := ⟨_, rfl⟩
                                      rw [hgcap] at hv34
                                      subst hv34
                                      have q1 : Below w32.heap.size w33 (w33.alloc (.cells #[.int .u32 55, .int .u64 0, .int .u64 0] 55)) := (Below.refl w32.heap.size w33).alloc s33 _
                                      have q2 : Below w32.heap.size (w33.alloc (.cells #[.int .u32 55, .int .u64 0, .int .u64 0] 55)) w34 := hb34.mono (by omega)
                                      have hb34' := B33.out.trans (q1.trans q2)
                                      have HB34 := Lib.hid hb34'
                                      have s34 := hb34'.size
                                      clear hb34 hb34' hgcap q1 q2
                                      go_wp2_with fail
                                      refine (marked' gi j cb (.int .u32 x.t :: .int .u64 V :: .int .u64 x.b :: ucs (L ++ List.replicate (j - us.length) Shuf.u99).tail) ?d1 hcb (by omega) _ (HP32.out.below HB34.out hg32)).mono ?_
                                      case d1 => simp only [List.length_cons, ucs_length, List.length_tail, List.length_append, List.length_replicate]; omega
                                      rintro e35 w35 ⟨rfl, hb35⟩
                                      have HB35 := Lib.hid (HB34.out.trans (hb35.mono s34))
                                      have s35 := HB35.out.size
                                      clear hb35
                                      have g1 : (((us.length + 1 : Nat) : Int) == (us.length : Int) + 1) = true := by simp
                                      have g2 : ((us.length : Int) + 1 == (us.length : Int) + 1) = true := by simp
                                      by_cases hj : j = us.length
                                      · have g3 : ((j : Int) == (us.length : Int)) = true := by simp [hj]
                                        go_wp2
                                        go_ret
                                        exact ⟨rfl, hB33.out.trans (HB35.out.mono hB33.out.size)⟩
                                      · have g3 : ((j : Int) == (us.length : Int)) = false := by simp; omega
                                        have k0 : (0 : Int) ≤ (us.length : Int) := by omega
                                        have k1 : (us.length : Int) < (j : Int) := by omega
                                        have c9 : w35.cell? ⟨gi, us.length * 3, none⟩ = some (.int .u32 99) := cell9 (HP32.out.below HB35.out hg32) hLl (by omega) (y := Shuf.u99) (by rw [List.getElem?_replicate, if_pos (by omega)])
                                        go_wp2
                                        go_ret
                                        exact ⟨rfl, hB33.out.trans (HB35.out.mono hB33.out.size)⟩
theorem open_upds {H : Type} {enc : TypeId × Value → H} {w : World} {base : Nat} {held : Bool} {fuel : Nat} {cs : List Value} {x : DataW H × List MemPlace} (h : DataW.trod enc Try.prog w base (fun _ => true) held fuel 57 cs = some x) :
    ∃ (A : Option Addr) (l : List U3) (cap : Nat), cs = [.slice A l.length cap] ∧ (A = none → l.length = 0 ∧ cap = 0) ∧ l.length ≤ cap ∧ Lay w w.heap.size A (ucs l) ∧ (x.1 = .nil ∧ cap = 0 ∨ ∃ xs ys, x.1 = .slice xs ys ∧ xs.length + ys.length = cap) :=
  open_list (f := 2) uc uc_length (by decide) uc_of Try.underlying57 (by kernel_rfl) rfl h
theorem bytesU : Try.prog.bytesOf 55 = 24 := by kernel_rfl
theorem upds_reach {H : Type} {d0 d1 d2 d3 d4 d5 : DataW H} {n cap : Nat}
    (hsz : (DataW.weightsEach Try.prog [34, 3, 3, 57, 3, 3] [d0, d1, d2, d3, d4, d5]).all (· ≤ reachBytes) = true) (hc : d3 = .nil ∧ cap = 0 ∨ ∃ xs ys, d3 = .slice xs ys ∧ xs.length + ys.length = cap) (hn : n ≤ cap) : n * 24 ≤ 140737488351232 := by
  rcases hc with ⟨rfl, h⟩ | ⟨xs, ys, rfl, h⟩
  · omega
  · have := sized_slice hsz (j := 3) (t := 57) (e := 55) rfl rfl Try.underlying57
    rw [bytesU] at this
    unfold reachBytes at this
    omega
theorem own : ownKnob Try.prog.godebug = none := by kernel_rfl
set_option maxRecDepth 100000 in
theorem lifted (os : Os) (started : os.Started) (H : Type) (enc : TypeId × Value → H) :
    ReturnsInHanded {} Try.checked os 8 .any (Rows.sieveShufflesSpec.pre6 enc Try.prog Try.f8 Rows.sieveShufflesRow.domain false) (Rows.sieveShufflesSpec.post enc Try.prog Try.f8 false true false false) := by
  refine returnsInHanded_of_change_sized (C := Try.checked) own started (by kernel_rfl) Try.func8
    (ChangeSpec.witness6 (enc := enc) (C := Try.checked) false ⟨#[], #[.int .u32 0, .int .i64 0, .int .i64 0, .slice none 0 0, .int .i64 0, .int .i64 0], []⟩ 8 (by kernel_rfl) (by kernel_rfl) (by kernel_rfl) (by kernel_rfl)) ?_
  intro W base args ds gs before hval0 hW hcnd hsz0 _
  have hsz : (DataW.weightsEach Try.prog (Try.f8.params.toList ++ Rows.sieveShufflesSpec.plain.varTypes Try.prog) (ds ++ gs)).all (· ≤ reachBytes) = true := hsz0
  have hval : ∀ (j : Nat) t v, Try.f8.params[j]? = some t → args[j]? = some v → Value.okWide Try.prog W .any base t v := hval0
  have hW' := hW
  obtain ⟨p, q, hA0, hV, rfl, hfz, hnd⟩ := hW
  have hA : DataW.TrodAll enc Try.prog W 0 (fun _ => true) true Try.f8.params.toList args.toList ds p := hA0
  rw [Try.params8] at hA hval hsz
  obtain ⟨v0, vs0, d0, ds0, p0, q0, hargs, rfl, rfl, h0, r0⟩ := trodAll_cons hA
  obtain ⟨v1, vs1, d1, ds1, p1, q1, rfl, rfl, rfl, h1, r1⟩ := trodAll_cons r0
  obtain ⟨v2, vs2, d2, ds2, p2, q2, rfl, rfl, rfl, h2, r2⟩ := trodAll_cons r1
  obtain ⟨v3, vs3, d3, ds3, p3, q3, rfl, rfl, rfl, h3, r3⟩ := trodAll_cons r2
  obtain ⟨v4, vs4, d4, ds4, p4, q4, rfl, rfl, rfl, h4, r4⟩ := trodAll_cons r3
  obtain ⟨v5, vs5, d5, ds5, p5, q5, rfl, rfl, rfl, h5, r5⟩ := trodAll_cons r4
  obtain ⟨rfl, rfl, rfl⟩ := trodAll_nil r5
  obtain rfl : args = #[v0, v1, v2, v3, v4, v5] := by cases args; simp_all
  obtain ⟨rfl, rfl⟩ := trodVars_none hV
  have hlt : ∀ x ∈ p0 ++ p1 ++ p2 ++ p3 ++ p4 ++ p5, x.block < W.heap.size := fun x hx => hW'.lt x (by simpa using hx)
  obtain ⟨a0, rfl, rfl, rfl, w0⟩ := open_int Try.underlying34 (hval 0 34 v0 rfl rfl) h0
  obtain ⟨a1, rfl, rfl, rfl, w1⟩ := open_int Try.underlying3 (hval 1 3 v1 rfl rfl) h1
  obtain ⟨a2, rfl, rfl, rfl, w2⟩ := open_int Try.underlying3 (hval 2 3 v2 rfl rfl) h2
  have k3 := h3
  obtain ⟨a4, rfl, rfl, rfl, w4⟩ := open_int Try.underlying3 (hval 4 3 v4 rfl rfl) h4
  obtain ⟨a5, rfl, rfl, rfl, w5⟩ := open_int Try.underlying3 (hval 5 3 v5 rfl rfl) h5
  obtain ⟨fu, hfu⟩ := h3
  obtain ⟨A, l, cap, hcs, hnone, hn, hlies, hcase⟩ := open_upds hfu
  obtain ⟨a0', n0', c0', rfl⟩ := okWide_slice Try.underlying57 (hval 3 57 v3 rfl rfl)
  simp only [Value.cells, List.cons.injEq, and_true] at hcs
  obtain ⟨rfl, rfl, rfl⟩ := Value.slice.inj hcs
  refine (walk _ _ _ _ _ (bounds_u32 w0) (bounds_i64 w1) (bounds_i64 w4) _ _ _ (upds_reach hsz hcase hn) W hlies).mono fun e W' ⟨he, bel⟩ => ?_
  subst he
  exact ⟨_, rfl, _, _, _, [], _, [], hW', trodAll_mk1 (shut_bool Try.underlying4 _), (trodAll_cons_mk (shut_int Try.underlying34 w0) (trodAll_cons_mk (shut_int Try.underlying3 w1) (trodAll_cons_mk (shut_int Try.underlying3 w2) (trodAll_cons_mk (Below.trod (by kernel_rfl) (by kernel_rfl) (of_decide_eq_true (by kernel_rfl)) k3 bel (fun x hx => hlt x (by simp [hx]))) (trodAll_cons_mk (shut_int Try.underlying3 w4) (trodAll_cons_mk (shut_int Try.underlying3 w5) trodAll_mk0)))))), rfl, bel.frame _, fun h => by cases h⟩
theorem over : Rows.sieveShufflesRow.holds Try.pinned (OpenSpec.ofChange Rows.sieveShufflesSpec) :=
  OpenClaim.holds_of_wide 8 Try.f8 rfl rfl rfl rfl rfl rfl rfl ⟨rfl, rfl, rfl, rfl, rfl⟩ rfl rfl rfl rfl rfl (by kernel_rfl) Try.func8 (by kernel_rfl)
    (of_decide_eq_true (by kernel_rfl)) (by unfold Func.isWrapper; first | (rw [if_pos (by decide +kernel)]; kernel_rfl) | (rw [if_neg (by decide +kernel)]; exact ⟨rfl, rfl⟩))
    (fun os started H enc _ => lifted os started H enc)
theorem proved : Rows.SieveShufflesSaid := over
#print axioms proved
end Go.Proofs.Ytepljdnhnnpdmaa.sieveShuffles
