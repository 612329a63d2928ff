/-
  The helpers of the audits' laws, over a Case. No condition.
-/
import Derived.Test.YtepljdnhnnpdmaaCase
import Derived.Deep.RegionHeld3
set_option linter.unusedVariables false
set_option linter.unusedSimpArgs false
namespace Go.Proofs.Ytepljdnhnnpdmaa.Case
open Go.RowKit Go.Shelf K Feed Desk

theorem make_one {P : Program} (w : World) (kk : IntKind) (t e : TypeId) (i : TypeInfo) (z : Value) (hzc : z.cells = #[z]) (ht : P.underlying t = some (.slice e)) (hi : P.info? e = some i) (hz : i.zero = some z) (hs : i.size = 1) (n : Nat) (hb : i.bytes * n ≤ 281474976710656) (hn : n ≤ 9223372036854775807) :
    (Instr.makeSlice t (.int kk n) (.int kk n)).run P w = .ok (.slice (some ⟨w.heap.size, 0, none⟩) n n) (w.alloc (.cells (List.replicate n z).toArray e)) := by
  have hb' : (i.bytes : Int) * (n : Int) ≤ 281474976710656 := by
    have : ((i.bytes * n : Nat) : Int) ≤ 281474976710656 := by omega
    rwa [Int.natCast_mul] at this
  have h := run_make (P := P) w t e i z ht hi hz kk kk n n (by omega) (Int.le_refl _) hb' (by omega)
  simp only [Int.toNat_natCast, hzc, hs, Nat.mul_one] at h
  rw [h, show (madeCells #[z] n) = (List.replicate n z).toArray by rw [← toList_madeCells_one]]
theorem info64 : (Try.prog.info? 53).map (fun i => (i.zero, i.size, i.bytes)) = some (some (.int .u64 0), 1, 8) := by kernel_rfl
theorem infoI : (Try.prog.info? 3).map (fun i => (i.zero, i.size, i.bytes)) = some (some (.int .i64 0), 1, 8) := by kernel_rfl
/-- A case's fourteen cells. -/
structure Cs where
  n : Int
  s : Value
  ed : Value
  beh : Int
  room : Int
  src : Int
  srcs : Value
  kind : Int
  ra : Int
  rb : Int
  rc : Int
  damp : Int
  rounds : Int
  seed : Int
def Cs.a (c : Cs) : Array Value := #[.int .u32 c.n, c.s, c.ed, .int .i64 c.beh, .int .i64 c.room, .int .u32 c.src, c.srcs, .int .i64 c.kind, .int .u32 c.ra, .int .u32 c.rb, .int .u32 c.rc, .int .u32 c.damp, .int .i64 c.rounds, .int .u64 c.seed]
/-- The room, and the error behind the edges. -/
def Cs.r (c : Cs) : Nat := (min (max c.room 0) 5000).toNat
def Cs.b (c : Cs) : Int := min (max c.beh 0) 200
def RelW (w : World) (g R : Nat) (i : Value) (wr : World) : Prop := ∃ k : Nat, k ≤ R ∧ i = .int .i64 k ∧ Row wr g 53 (List.replicate k (Value.int .u64 99) ++ List.replicate (R - k) (Value.int .u64 0)).toArray ∧ Below w.heap.size w wr
def WordsAt (w : World) (R : Nat) (e : Ending) (w' : World) : Prop := ∃ g, e = .returned (.slice (some ⟨g, 0, none⟩) R R) ∧ w.heap.size ≤ g ∧ Row w' g 53 (List.replicate R (Value.int .u64 99)).toArray ∧ Below w.heap.size w w'
set_option maxRecDepth 100000 in
theorem words (c : Cs) (w : World) : Calls Try.prog 38 #[.agg c.a] w (WordsAt w c.r) := by
  obtain ⟨m, hm⟩ : ∃ m, (if c.room < 0 then (0 : Int) else c.room) = m := ⟨_, rfl⟩
  have hR : (if (5000 : Int) < m then 5000 else m) = ((c.r : Nat) : Int) := by unfold Cs.r; subst hm; split <;> split <;> omega
  have hRb : c.r ≤ 5000 := by unfold Cs.r; omega
  have B0 := Lib.hid ((Below.refl w.heap.size w).alloc (Nat.le_refl _) (.cells c.a 74))
  have R4 := (Row.new w 74 c.a).get (i := 4) rfl
  generalize c.r = R at hR hRb ⊢
  obtain ⟨i0, hi, hz0, hz1, hz2⟩ := info_parts info64
  have hmk := fun W => make_one (P := Try.prog) W .i64 76 53 i0 (.int .u64 0) rfl Try.underlying76 hi hz0 hz1 R (by rw [hz2]; omega) (by omega)
  unfold Cs.a at B0 R4 ⊢
  go_enter Try.func38, Try.ntmps38
  go_wp2
  go_loopw [5] (fun i wr => RelW w (w.heap.size + 1) R i wr) (fun i _ => R - (intOf i).toNat)
  case atStart => exact ⟨0, Nat.zero_le _, rfl, by simpa using Row.at (Row.new _ 53 (List.replicate R (.int .u64 0)).toArray) (by simp), B0.out.alloc (by simp) _⟩
  case round =>
    obtain ⟨k, hk, rfl, hrow, hl⟩ := hrel
    rcases Nat.lt_or_ge k R with h6 | h6
    · have hc : wr.cell? ⟨w.heap.size + 1, k, none⟩ = some (.int .u64 0) := hrow.get (by
        simp only [List.getElem?_toArray]
        rw [List.getElem?_append_right (by simp)]
        rw [List.getElem?_replicate, if_pos (by simp; omega)])
      have hf := hrow.free k
      have hkb : decide ((k : Int) < (R : Int)) = true := by simp; omega
      have hrow' : Row (wr.setCell ⟨w.heap.size + 1, k, none⟩ (.int .u64 99)) (w.heap.size + 1) 53 (List.replicate (k + 1) (Value.int .u64 99) ++ List.replicate (R - (k + 1)) (Value.int .u64 0)).toArray := by
        refine (congrArg (fun a => Row _ _ _ a) ?_).mp (hrow.set k (.int .u64 99))
        simp only [List.setIfInBounds_toArray]
        rw [List.set_append_right _ _ (by simp), show R - k = (R - (k + 1)) + 1 by omega]
        rw [List.length_replicate, Nat.sub_self, List.replicate_succ (n := R - (k + 1)), List.set_cons_zero, List.replicate_succ' (n := k), List.append_assoc]
        rfl
      have HR := Lib.hid hrow'
      have HB := Lib.hid (hl.setCell (p := ⟨w.heap.size + 1, k, none⟩) (by show w.heap.size ≤ w.heap.size + 1; omega) (.int .u64 99))
      clear hrow hrow' hl
      go_wp2
      go_roundw
      case rel => exact ⟨k + 1, by omega, by go_num, HR.out, HB.out⟩
      case measure => simp [intOf]; omega
    · obtain rfl : k = R := by omega
      have hkb : decide ((k : Int) < (k : Int)) = false := by simp
      have HR := Lib.hid hrow
      clear hrow
      go_wp2
      go_ret
      exact ⟨_, rfl, by omega, by simpa using HR.out, hl⟩
theorem behind (c : Cs) (w : World) : Calls Try.prog 40 #[.agg c.a] w fun e w' => e = .returned (.int .i64 c.b) ∧ Below w.heap.size w w' := by
  obtain ⟨m, hm⟩ : ∃ m, (if c.beh < 0 then (0 : Int) else c.beh) = m := ⟨_, rfl⟩
  have hR : (if (200 : Int) < m then 200 else m) = c.b := by unfold Cs.b; subst hm; split <;> split <;> omega
  have R3 := (Row.new w 74 c.a).get (i := 3) rfl
  generalize c.b = R at hR ⊢
  unfold Cs.a at R3 ⊢
  go_enter Try.func40, Try.ntmps40
  go_wp2
  go_ret
  exact ⟨rfl, (Below.refl _ _).alloc (Nat.le_refl _) _⟩

/-! ### what is asked -/
def askC (made n st room need beh : Int) (l : List E3) : Int := if sitCode made st n room need ≠ 0 then sitCode made st n room need else oerr n 0 beh l
theorem oerr_drop {n beh : Int} {l : List E3} {k : Nat} {x : E3} (hx : l[k]? = some x) : oerr n 0 beh (l.drop k) = if wrong n 0 x = 0 then oerr n 0 beh (l.drop (k + 1)) else wrong n 0 x := by
  obtain ⟨h, rfl⟩ := List.getElem?_eq_some_iff.1 hx
  rw [List.drop_eq_getElem_cons h, oerr]
def RelAsk (n beh : Int) (l : List E3) (w : World) (i : Value) (wr : World) : Prop := ∃ k : Nat, k ≤ l.length ∧ i = .int .i64 k ∧ oerr n 0 beh l = oerr n 0 beh (l.drop k) ∧ Below w.heap.size w wr
def AskAt (c : Int) (w : World) (e : Ending) (w' : World) : Prop := e = .returned (.int .i64 c) ∧ Below w.heap.size w w'
set_option maxRecDepth 100000 in
theorem ask (made n st room need beh : Int) (hn : 0 ≤ n ∧ n ≤ 4294967295) (A : Option Addr) (l : List E3) (cap : Nat) (hr : l.length * 12 ≤ 140737488351232) (w : World) (hA : Lay w w.heap.size A (evs l)) :
    Calls Try.prog 78 #[.int .i64 made, .int .u32 n, .int .i64 st, .int .i64 room, .int .i64 need, .int .i64 0, .slice A l.length cap, .int .i64 beh] w (AskAt (askC made n st room need beh l) w) := by
  unfold askC sitCode
  by_cases h1 : made ≠ 0
  · simp only [if_pos h1]
    have d1 : (made != 0) = true := by simpa using h1
    clear h1
    go_enter Try.func78, Try.ntmps78
    go_wp2
    go_ret
    exact ⟨rfl, Below.refl _ _⟩
  simp only [if_neg h1]
  obtain rfl : made = 0 := by simpa using h1
  clear h1
  by_cases h2 : st ≠ n
  · simp only [if_pos h2]
    have d2 : (st != n) = true := by simpa using h2
    rw [if_pos (by decide)]
    clear h2
    go_enter Try.func78, Try.ntmps78
    go_wp2
    go_ret
    exact ⟨rfl, Below.refl _ _⟩
  simp only [if_neg h2]
  obtain rfl : st = n := by simpa using h2
  clear h2
  by_cases h3 : room < need
  · simp only [if_pos h3]
    rw [if_pos (by decide)]
    go_enter Try.func78, Try.ntmps78
    go_wp2
    go_ret
    exact ⟨rfl, Below.refl _ _⟩
  simp only [if_neg h3, ne_eq, not_true_eq_false, if_false]
  have HL := Lib.hid hA
  clear hA
  have d3 : decide (room < need) = false := by simpa using h3
  clear h3
  go_enter Try.func78, Try.ntmps78
  go_wp2
  go_loopw [17] (fun i wr => RelAsk st beh l w i wr) (fun i _ => l.length - (intOf i).toNat)
  case atStart => exact ⟨0, Nat.zero_le _, rfl, rfl, Below.refl _ _⟩
  case round =>
    obtain ⟨k, hk, rfl, hsame, hl⟩ := hrel
    rcases Nat.lt_or_ge k l.length with h6 | h6
    · obtain ⟨x, hx⟩ : ∃ x, l[k]? = some x := ⟨_, List.getElem?_eq_getElem h6⟩
      obtain ⟨b, off, rfl, hB, c0, c1, c2⟩ := (HL.out.below hl).edge hx
      have hkb : decide ((k : Int) < (l.length : Int)) = true := by simp; omega
      have hd := oerr_drop (n := st) (beh := beh) hx
      rw [← hsame] at hd
      have hx0 := x.sb
      have hx1 := x.db
      by_cases g1 : st ≤ x.s
      · have hw : wrong st 0 x = 91 := by unfold wrong; rw [if_pos (.inl g1)]
        rw [hw, if_neg (by decide)] at hd
        have d4 : decide (st ≤ x.s) = true := by simpa using g1
        rw [hd]
        clear hx hd hw g1 hsame
        go_wp2
        go_ret
        exact ⟨rfl, hl⟩
      have d4 : decide (st ≤ x.s) = false := by simpa using g1
      by_cases g2 : st ≤ x.d
      · have hw : wrong st 0 x = 91 := by unfold wrong; rw [if_pos (.inr g2)]
        rw [hw, if_neg (by decide)] at hd
        have d5 : decide (st ≤ x.d) = true := by simpa using g2
        rw [hd]
        clear hx hd hw g1 g2 hsame
        go_wp2
        go_ret
        exact ⟨rfl, hl⟩
      have d5 : decide (st ≤ x.d) = false := by simpa using g2
      have hw : wrong st 0 x = 0 := by unfold wrong; rw [if_neg (by omega)]; simp
      rw [hw, if_pos rfl] at hd
      have HD := Lib.hid hd
      clear hx hd hw g1 g2 hsame
      go_wp2
      go_roundw
      case rel => exact ⟨k + 1, by omega, by go_num, HD.out, hl⟩
      case measure => simp [intOf]; omega
    · obtain rfl : k = l.length := by omega
      have hkb : decide ((l.length : Int) < (l.length : Int)) = false := by simp
      rw [List.drop_length, oerr] at hsame
      have HS := Lib.hid hsame
      clear hsame
      go_wp2
      go_ret
      exact ⟨congrArg (fun z => Ending.returned (.int .i64 z)) HS.out.symm, hl⟩

theorem num (e : Int) (w : World) : Calls Try.prog 15 #[.int .i64 e] w fun x w' => x = .returned (.int .i64 e) ∧ w = w' := by
  go_enter Try.func15, Try.ntmps15
  go_wp2
  go_ret
  exact ⟨rfl, rfl⟩
set_option maxRecDepth 100000 in
set_option maxHeartbeats 2000000 in
theorem asked (c : Cs) (made n need : Int) (hn : 0 ≤ n ∧ n ≤ 4294967295) (A B : Option Addr) (ln lcap : Nat) (l : List E3) (cap : Nat) (hr : l.length * 12 ≤ 140737488351232) (hs : c.s = .slice A ln lcap) (he : c.ed = .slice B l.length cap) (w : World) (hA : Lay w w.heap.size B (evs l)) :
    Calls Try.prog 41 #[.agg c.a, .int .i64 made, .int .u32 n, .int .i64 need, .int .i64 0] w (AskAt (askC made n ln c.r need c.b l) w) := by
  obtain ⟨m, hm⟩ : ∃ m, (if c.room < 0 then (0 : Int) else c.room) = m := ⟨_, rfl⟩
  have hR : (if (5000 : Int) < m then 5000 else m) = ((c.r : Nat) : Int) := by unfold Cs.r; subst hm; split <;> split <;> omega
  obtain ⟨W0, hW0⟩ : ∃ W0, w.alloc (.cells c.a 74) = W0 := ⟨_, rfl⟩
  have R0 := Row.new w 74 c.a
  have B0 := (Below.refl w.heap.size w).alloc (Nat.le_refl _) (.cells c.a 74)
  have L0 := hA.below B0
  rw [hW0] at R0 B0 L0
  obtain ⟨cn, cs, ce, cbeh, croom, csrc, csrcs, ckind, cra, crb, crc, cdamp, crounds, cseed⟩ := c
  simp only at hs he
  subst hs he
  obtain ⟨cb, hcb⟩ : ∃ cb, Cs.b ⟨cn, .slice A ln lcap, .slice B l.length cap, cbeh, croom, csrc, csrcs, ckind, cra, crb, crc, cdamp, crounds, cseed⟩ = cb := ⟨_, rfl⟩
  obtain ⟨cr, hcr⟩ : ∃ cr, Cs.r ⟨cn, .slice A ln lcap, .slice B l.length cap, cbeh, croom, csrc, csrcs, ckind, cra, crb, crc, cdamp, crounds, cseed⟩ = cr := ⟨_, rfl⟩
  rw [hcb, hcr]
  rw [hcr] at hR
  have HB := Lib.hid (fun W => hcb ▸ behind ⟨cn, .slice A ln lcap, .slice B l.length cap, cbeh, croom, csrc, csrcs, ckind, cra, crb, crc, cdamp, crounds, cseed⟩ W)
  unfold Cs.a at R0 HB hW0 ⊢
  dsimp only at R0 HB hW0 hm ⊢
  have hS0 : W0.cell? ⟨w.heap.size, 0, none⟩ = some (.int .u32 cn) ∧ W0.cell? ⟨w.heap.size, 1, none⟩ = some (.slice A ln lcap) ∧ W0.cell? ⟨w.heap.size, 2, none⟩ = some (.slice B l.length cap) ∧ W0.cell? ⟨w.heap.size, 3, none⟩ = some (.int .i64 cbeh) ∧ W0.cell? ⟨w.heap.size, 4, none⟩ = some (.int .i64 croom) ∧ W0.cell? ⟨w.heap.size, 5, none⟩ = some (.int .u32 csrc) ∧ W0.cell? ⟨w.heap.size, 6, none⟩ = some (csrcs) ∧ W0.cell? ⟨w.heap.size, 7, none⟩ = some (.int .i64 ckind) ∧ W0.cell? ⟨w.heap.size, 8, none⟩ = some (.int .u32 cra) ∧ W0.cell? ⟨w.heap.size, 9, none⟩ = some (.int .u32 crb) ∧ W0.cell? ⟨w.heap.size, 10, none⟩ = some (.int .u32 crc) ∧ W0.cell? ⟨w.heap.size, 11, none⟩ = some (.int .u32 cdamp) ∧ W0.cell? ⟨w.heap.size, 12, none⟩ = some (.int .i64 crounds) ∧ W0.cell? ⟨w.heap.size, 13, none⟩ = some (.int .u64 cseed) := ⟨R0.get (i := 0) rfl, R0.get (i := 1) rfl, R0.get (i := 2) rfl, R0.get (i := 3) rfl, R0.get (i := 4) rfl, R0.get (i := 5) rfl, R0.get (i := 6) rfl, R0.get (i := 7) rfl, R0.get (i := 8) rfl, R0.get (i := 9) rfl, R0.get (i := 10) rfl, R0.get (i := 11) rfl, R0.get (i := 12) rfl, R0.get (i := 13) rfl⟩
  have HR := Lib.hid (And.intro R0 (And.intro B0 L0))
  clear R0 B0 L0
  go_enter Try.func41, Try.ntmps41
  go_wp2_with fail
  clear hW0
  go_region_held3 (fun w' => w'.cell? ⟨w.heap.size, 0, none⟩ = some (.int .u32 cn) ∧ w'.cell? ⟨w.heap.size, 1, none⟩ = some (.slice A ln lcap) ∧ w'.cell? ⟨w.heap.size, 2, none⟩ = some (.slice B l.length cap) ∧ w'.cell? ⟨w.heap.size, 3, none⟩ = some (.int .i64 cbeh) ∧ w'.cell? ⟨w.heap.size, 4, none⟩ = some (.int .i64 croom) ∧ w'.cell? ⟨w.heap.size, 5, none⟩ = some (.int .u32 csrc) ∧ w'.cell? ⟨w.heap.size, 6, none⟩ = some (csrcs) ∧ w'.cell? ⟨w.heap.size, 7, none⟩ = some (.int .i64 ckind) ∧ w'.cell? ⟨w.heap.size, 8, none⟩ = some (.int .u32 cra) ∧ w'.cell? ⟨w.heap.size, 9, none⟩ = some (.int .u32 crb) ∧ w'.cell? ⟨w.heap.size, 10, none⟩ = some (.int .u32 crc) ∧ w'.cell? ⟨w.heap.size, 11, none⟩ = some (.int .u32 cdamp) ∧ w'.cell? ⟨w.heap.size, 12, none⟩ = some (.int .i64 crounds) ∧ w'.cell? ⟨w.heap.size, 13, none⟩ = some (.int .u64 cseed))
    (first
      | exact hS0
      | with_reducible exact hS1
      | with_reducible exact hS2)
    (first
      | (go_simp; go_at_call 40
         obtain ⟨R0, B0, L0⟩ := HR.out
         refine (HB.out _).mono ?_
         rintro e w1 ⟨rfl, hw1⟩
         have R1 := (R0.drew).below hw1 R0.lt
         have B1 := (B0.drew).trans (hw1.mono B0.size)
         have L1 := hA.below B1
         have hS1 : w1.cell? ⟨w.heap.size, 0, none⟩ = some (.int .u32 cn) ∧ w1.cell? ⟨w.heap.size, 1, none⟩ = some (.slice A ln lcap) ∧ w1.cell? ⟨w.heap.size, 2, none⟩ = some (.slice B l.length cap) ∧ w1.cell? ⟨w.heap.size, 3, none⟩ = some (.int .i64 cbeh) ∧ w1.cell? ⟨w.heap.size, 4, none⟩ = some (.int .i64 croom) ∧ w1.cell? ⟨w.heap.size, 5, none⟩ = some (.int .u32 csrc) ∧ w1.cell? ⟨w.heap.size, 6, none⟩ = some (csrcs) ∧ w1.cell? ⟨w.heap.size, 7, none⟩ = some (.int .i64 ckind) ∧ w1.cell? ⟨w.heap.size, 8, none⟩ = some (.int .u32 cra) ∧ w1.cell? ⟨w.heap.size, 9, none⟩ = some (.int .u32 crb) ∧ w1.cell? ⟨w.heap.size, 10, none⟩ = some (.int .u32 crc) ∧ w1.cell? ⟨w.heap.size, 11, none⟩ = some (.int .u32 cdamp) ∧ w1.cell? ⟨w.heap.size, 12, none⟩ = some (.int .i64 crounds) ∧ w1.cell? ⟨w.heap.size, 13, none⟩ = some (.int .u64 cseed) := ⟨R1.get (i := 0) rfl, R1.get (i := 1) rfl, R1.get (i := 2) rfl, R1.get (i := 3) rfl, R1.get (i := 4) rfl, R1.get (i := 5) rfl, R1.get (i := 6) rfl, R1.get (i := 7) rfl, R1.get (i := 8) rfl, R1.get (i := 9) rfl, R1.get (i := 10) rfl, R1.get (i := 11) rfl, R1.get (i := 12) rfl, R1.get (i := 13) rfl⟩)
      | (go_simp; go_at_call 15; refine (num cb _).mono ?_; rintro e w1' ⟨rfl, rfl⟩)
      | (go_simp; go_at_call 78
         refine (ask made n ln cr need cb hn B l cap hr _ (L1.more B1.size)).mono ?_
         rintro e w2 ⟨rfl, hb2⟩
         have R2 := R1.below hb2 R1.lt
         have B2 := B1.trans (hb2.mono B1.size)
         have hS2 : w2.cell? ⟨w.heap.size, 0, none⟩ = some (.int .u32 cn) ∧ w2.cell? ⟨w.heap.size, 1, none⟩ = some (.slice A ln lcap) ∧ w2.cell? ⟨w.heap.size, 2, none⟩ = some (.slice B l.length cap) ∧ w2.cell? ⟨w.heap.size, 3, none⟩ = some (.int .i64 cbeh) ∧ w2.cell? ⟨w.heap.size, 4, none⟩ = some (.int .i64 croom) ∧ w2.cell? ⟨w.heap.size, 5, none⟩ = some (.int .u32 csrc) ∧ w2.cell? ⟨w.heap.size, 6, none⟩ = some (csrcs) ∧ w2.cell? ⟨w.heap.size, 7, none⟩ = some (.int .i64 ckind) ∧ w2.cell? ⟨w.heap.size, 8, none⟩ = some (.int .u32 cra) ∧ w2.cell? ⟨w.heap.size, 9, none⟩ = some (.int .u32 crb) ∧ w2.cell? ⟨w.heap.size, 10, none⟩ = some (.int .u32 crc) ∧ w2.cell? ⟨w.heap.size, 11, none⟩ = some (.int .u32 cdamp) ∧ w2.cell? ⟨w.heap.size, 12, none⟩ = some (.int .i64 crounds) ∧ w2.cell? ⟨w.heap.size, 13, none⟩ = some (.int .u64 cseed) := ⟨R2.get (i := 0) rfl, R2.get (i := 1) rfl, R2.get (i := 2) rfl, R2.get (i := 3) rfl, R2.get (i := 4) rfl, R2.get (i := 5) rfl, R2.get (i := 6) rfl, R2.get (i := 7) rfl, R2.get (i := 8) rfl, R2.get (i := 9) rfl, R2.get (i := 10) rfl, R2.get (i := 11) rfl, R2.get (i := 12) rfl, R2.get (i := 13) rfl⟩))
  all_goals
    have HZ := Lib.hid B2
    clear hS0 hS1 hS2
    go_wp2
    go_ret
    exact ⟨rfl, HZ.out⟩
end Go.Proofs.Ytepljdnhnnpdmaa.Case
