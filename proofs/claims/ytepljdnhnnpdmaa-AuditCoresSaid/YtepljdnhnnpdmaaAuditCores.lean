/-
  AuditCores: the audit of cores: its verdict and its error are the document's; the states are kept, the room behind what is asked for too. No condition.
-/
import Derived.Test.YtepljdnhnnpdmaaRows
import Derived.Test.YtepljdnhnnpdmaaLabels3
import Derived.Test.YtepljdnhnnpdmaaCores4
import Derived.Test.YtepljdnhnnpdmaaCaseOpen
import Derived.Deep.RegionHeld3
import Derived.ChangeOld
import Derived.SizedLaws
set_option linter.unusedVariables false
set_option linter.unusedSimpArgs false
namespace Go.Proofs.Ytepljdnhnnpdmaa.auditCores
open Go.RowKit Go.Shelf Go.ChangeShapes Go.WideShapes Go.ChangeAt K Feed Desk Forest Case Faults Labels Cores

theorem _root_.Go.Proofs.Ytepljdnhnnpdmaa.Case.Kept.lay {W : World} {g : Nat} {l : List S8} (h : Kept W g l) : Lay W (g + 1) (some ⟨g, 0, none⟩) (svs l) := fun hne =>
  ⟨g, 0, rfl, by omega, fun j u hu => by
    have := h.cells j u (by
      rw [show svs (l ++ [m77, m78]) = svs l ++ svs [m77, m78] by simp [svs], List.getElem?_append_left (List.getElem?_eq_some_iff.1 hu).1]
      exact hu)
    rwa [Nat.zero_add]⟩
theorem feed_alloc {lo hi b0 b1 : Nat} {W : World} {es : List E3} {bh : Int} (h : FeedFrom lo W hi b0 b1 es bh) (hh : hi ≤ W.heap.size) (o : Obj) : FeedFrom lo (W.alloc o) hi b0 b1 es bh := fun W' h' =>
  h W' fun k h1 h2 => (h' k h1 h2).trans (Below.heap_alloc W o k (by omega))
/-- What stays throughout: the case's cells, the list with its marks, the room. -/
structure St (w : World) (C gm gw : Nat) (arr : Array Value) (l : List S8) (cs : List Value) (X : World) : Prop where
  c : Row X C 74 arr
  b : Below w.heap.size w X
  k : Kept X gm l
  r : Row X gw 53 cs.toArray
section
variable {w X Y : World} {C gm gw : Nat} {arr : Array Value} {l : List S8} {cs : List Value}
theorem St.below (h : St w C gm gw arr l cs X) (hb : Below X.heap.size X Y) : St w C gm gw arr l cs Y := ⟨h.c.below hb h.c.lt, h.b.trans (hb.mono h.b.size), h.k.below hb h.k.lt, h.r.below hb h.r.lt⟩
theorem St.alloc (h : St w C gm gw arr l cs X) (o : Obj) : St w C gm gw arr l cs (X.alloc o) := h.below ((Below.refl _ _).alloc (Nat.le_refl _) o)
theorem St.drew (h : St w C gm gw arr l cs X) : St w C gm gw arr l cs X.drew := h.below (Below.refl _ X).drew
theorem St.set (h : St w C gm gw arr l cs X) {p : Addr} (h1 : C ≠ p.block) (h2 : gm ≠ p.block) (h3 : gw ≠ p.block) (h4 : w.heap.size ≤ p.block) (v : Value) : St w C gm gw arr l cs (X.setCell p v) :=
  ⟨h.c.other h1 v, h.b.setCell h4 v, ⟨by simpa using h.k.lt, fun j u hu => by
    have := h.k.cells j u hu
    unfold World.cell? at this ⊢
    simp only at this ⊢
    rw [heap_setCell_other X p gm v h2]
    exact this⟩, h.r.other h3 v⟩
theorem St.set3 (h : St w C gm gw arr l cs X) (V : Nat) (h1 : C ≠ V) (h2 : gm ≠ V) (h3 : gw ≠ V) (h4 : w.heap.size ≤ V) (r : Bool) (v q : Int) :
    St w C gm gw arr l cs (((X.setCell ⟨V, 0, none⟩ (.bool r)).setCell ⟨V, 1, none⟩ (.int .u32 v)).setCell ⟨V, 2, none⟩ (.int .i64 q)) := ((h.set (p := ⟨V, 0, none⟩) h1 h2 h3 h4 _).set (p := ⟨V, 1, none⟩) h1 h2 h3 h4 _).set (p := ⟨V, 2, none⟩) h1 h2 h3 h4 _
theorem set3_row {V : Nat} {r' : Bool} {v' q' : Int} (h : Row X V 79 #[.bool r', .int .u32 v', .int .i64 q']) (r : Bool) (v q : Int) :
    Row (((X.setCell ⟨V, 0, none⟩ (.bool r)).setCell ⟨V, 1, none⟩ (.int .u32 v)).setCell ⟨V, 2, none⟩ (.int .i64 q)) V 79 #[.bool r, .int .u32 v, .int .i64 q] := ((h.set 0 (.bool r)).set 1 (.int .u32 v)).set 2 (.int .i64 q)
theorem St.turns (h : St w C gm gw arr l cs X) (t : Turns (fun k => k = gw) X Y) (h1 : C ≠ gw) (h2 : gm ≠ gw) (h3 : w.heap.size ≤ gw) {cs' : List Value} (hr : Row Y gw 53 cs'.toArray) : St w C gm gw arr l cs' Y :=
  ⟨t.row h.c h1, h.b.trans (t.below (n := w.heap.size) h.b.size (fun k h => by omega)), ⟨Nat.lt_of_lt_of_le h.k.lt t.size, fun j u hu => by
    have := h.k.cells j u hu
    unfold World.cell? at this ⊢
    simp only at this ⊢
    rw [t.block gm h.k.lt h2]
    exact this⟩, hr⟩
end
theorem St.cells {n : Nat} {w X : World} {gm gw : Nat} {l : List S8} {cs : List Value} {cbeh croom csrc ckind cra crb crc cdamp crounds cseed : Int} {csrcs : Value} {A B : Option Addr} {es : List E3} {scap ecap : Nat}
    (h : St w w.heap.size gm gw #[.int .u32 (n : Int), .slice A l.length scap, .slice B es.length ecap, .int .i64 cbeh, .int .i64 croom, .int .u32 csrc, csrcs, .int .i64 ckind, .int .u32 cra, .int .u32 crb, .int .u32 crc, .int .u32 cdamp, .int .i64 crounds, .int .u64 cseed] l cs X) : X.cell? ⟨w.heap.size, 0, none⟩ = some (.int .u32 (n : Int)) ∧ X.cell? ⟨w.heap.size, 1, none⟩ = some (.slice A l.length scap) ∧ X.cell? ⟨w.heap.size, 2, none⟩ = some (.slice B es.length ecap) ∧ X.cell? ⟨w.heap.size, 3, none⟩ = some (.int .i64 cbeh) ∧ X.cell? ⟨w.heap.size, 4, none⟩ = some (.int .i64 croom) ∧ X.cell? ⟨w.heap.size, 5, none⟩ = some (.int .u32 csrc) ∧ X.cell? ⟨w.heap.size, 6, none⟩ = some (csrcs) ∧ X.cell? ⟨w.heap.size, 7, none⟩ = some (.int .i64 ckind) ∧ X.cell? ⟨w.heap.size, 8, none⟩ = some (.int .u32 cra) ∧ X.cell? ⟨w.heap.size, 9, none⟩ = some (.int .u32 crb) ∧ X.cell? ⟨w.heap.size, 10, none⟩ = some (.int .u32 crc) ∧ X.cell? ⟨w.heap.size, 11, none⟩ = some (.int .u32 cdamp) ∧ X.cell? ⟨w.heap.size, 12, none⟩ = some (.int .i64 crounds) ∧ X.cell? ⟨w.heap.size, 13, none⟩ = some (.int .u64 cseed) := ⟨Row.get h.c (i := 0) rfl, Row.get h.c (i := 1) rfl, Row.get h.c (i := 2) rfl, Row.get h.c (i := 3) rfl, Row.get h.c (i := 4) rfl, Row.get h.c (i := 5) rfl, Row.get h.c (i := 6) rfl, Row.get h.c (i := 7) rfl, Row.get h.c (i := 8) rfl, Row.get h.c (i := 9) rfl, Row.get h.c (i := 10) rfl, Row.get h.c (i := 11) rfl, Row.get h.c (i := 12) rfl, Row.get h.c (i := 13) rfl⟩
theorem ask_zero2 {n R : Nat} {l : List S8} {es : List E3} {beh : Int} (h : askC (madeCode (n : Int)) n l.length R (2 * n) beh es = 0) : 1 ≤ n ∧ (l.length : Int) = n ∧ n + n ≤ R ∧ ∀ x ∈ es, x.s < n ∧ x.d < n := by
  unfold askC at h
  by_cases h1 : sitCode (madeCode (n : Int)) l.length n R (2 * n) = 0
  · rw [if_neg (by rw [h1]; simp)] at h
    have h' := h1
    unfold sitCode madeCode at h'
    by_cases g1 : (n : Int) < 1 ∨ 2147483647 < (n : Int)
    · rw [if_pos g1] at h'; simp at h'
    rw [if_neg g1] at h'
    by_cases g2 : (l.length : Int) ≠ n
    · simp [g2] at h'
    by_cases g3 : (R : Int) < 2 * n
    · exfalso; simp only [ne_eq, not_true_eq_false, if_false] at h'; rw [if_neg g2, if_pos g3] at h'; cases h'
    exact ⟨by omega, by omega, by omega, (oerr_zero h).2⟩
  · rw [if_pos h1] at h
    exact absurd h h1
theorem spare2 (g R n cap : Nat) (cs : List Value) (hcs : ∀ k, n + n ≤ k → k < R → cs[k]? = some (.int .u64 99)) (hn : n ≤ 4294967295) (hR : R ≤ 5000) (w : World) (hr : Row w g 53 cs.toArray) :
    Calls Try.prog 47 #[.slice (some ⟨g, 0, none⟩) R cap, .int .i64 (2 * (n : Int))] w fun e w' => e = .returned (.bool true) ∧ Below w.heap.size w w' := by
  have h := spare g R (n + n) cap cs hcs (by omega) hR w hr
  rwa [show (((n + n : Nat) : Nat) : Int) = 2 * (n : Int) by omega] at h
set_option maxRecDepth 100000 in
set_option maxHeartbeats 8000000 in
theorem walk (n : Nat) (cbeh croom csrc ckind cra crb crc cdamp crounds cseed : Int) (csrcs : Value) (hn : n ≤ 4294967295) (A B : Option Addr) (l : List S8) (es : List E3) (scap ecap : Nat)
    (hrl : (l.length + 2) * 64 ≤ 140737488355328) (hr : es.length * 12 ≤ 140737488351232) (h0 : B = none → es.length = 0 ∧ ecap = 0) (w : World) (hA : Lay w w.heap.size A (svs l)) (hB : Lay w w.heap.size B (evs es)) :
    Calls Try.prog 11 #[.agg #[.int .u32 (n : Int), .slice A l.length scap, .slice B es.length ecap, .int .i64 cbeh, .int .i64 croom, .int .u32 csrc, csrcs, .int .i64 ckind, .int .u32 cra, .int .u32 crb, .int .u32 crc, .int .u32 cdamp, .int .i64 crounds, .int .u64 cseed]] w fun e w' => e = .returned (.bool true) ∧ Below w.heap.size w w' := by
  obtain ⟨W0, hW0⟩ : ∃ W0, w.alloc (.cells #[.int .u32 (n : Int), .slice A l.length scap, .slice B es.length ecap, .int .i64 cbeh, .int .i64 croom, .int .u32 csrc, csrcs, .int .i64 ckind, .int .u32 cra, .int .u32 crb, .int .u32 crc, .int .u32 cdamp, .int .i64 crounds, .int .u64 cseed] 74) = W0 := ⟨_, rfl⟩
  have C0 := Row.new w 74 #[.int .u32 (n : Int), .slice A l.length scap, .slice B es.length ecap, .int .i64 cbeh, .int .i64 croom, .int .u32 csrc, csrcs, .int .i64 ckind, .int .u32 cra, .int .u32 crb, .int .u32 crc, .int .u32 cdamp, .int .i64 crounds, .int .u64 cseed]
  have B0 := (Below.refl w.heap.size w).alloc (Nat.le_refl _) (.cells #[.int .u32 (n : Int), .slice A l.length scap, .slice B es.length ecap, .int .i64 cbeh, .int .i64 croom, .int .u32 csrc, csrcs, .int .i64 ckind, .int .u32 cra, .int .u32 crb, .int .u32 crc, .int .u32 cdamp, .int .i64 crounds, .int .u64 cseed] 74)
  have S0 : W0.heap.size = w.heap.size + 1 := by rw [← hW0]; simp
  rw [hW0] at C0 B0
  obtain ⟨R, hRR⟩ : ∃ R, Cs.r ⟨(n : Int), .slice A l.length scap, .slice B es.length ecap, cbeh, croom, csrc, csrcs, ckind, cra, crb, crc, cdamp, crounds, cseed⟩ = R := ⟨_, rfl⟩
  obtain ⟨bh, hbh⟩ : ∃ bh, Cs.b ⟨(n : Int), .slice A l.length scap, .slice B es.length ecap, cbeh, croom, csrc, csrcs, ckind, cra, crb, crc, cdamp, crounds, cseed⟩ = bh := ⟨_, rfl⟩
  have hR5 : R ≤ 5000 := by rw [← hRR]; unfold Cs.r; omega
  have hwn0 : IntKind.i64.wrap (n : Int) = n := IntWalk.i64_in _ ⟨by omega, by omega⟩
  have hwn := Lib.hid hwn0
  have hwm := Lib.hid (show IntKind.i64.wrap ((2 : Int) * n) = (2 : Int) * n from IntWalk.i64_in _ ⟨by omega, by omega⟩)
  clear hwn0
  have HW := Lib.hid (fun W => hRR ▸ words ⟨(n : Int), .slice A l.length scap, .slice B es.length ecap, cbeh, croom, csrc, csrcs, ckind, cra, crb, crc, cdamp, crounds, cseed⟩ W)
  have HBe := Lib.hid (fun W => hbh ▸ behind ⟨(n : Int), .slice A l.length scap, .slice B es.length ecap, cbeh, croom, csrc, csrcs, ckind, cra, crb, crc, cdamp, crounds, cseed⟩ W)
  have HAs := Lib.hid (fun W hL => hRR ▸ hbh ▸ asked ⟨(n : Int), .slice A l.length scap, .slice B es.length ecap, cbeh, croom, csrc, csrcs, ckind, cra, crb, crc, cdamp, crounds, cseed⟩ (madeCode (n : Int)) (n : Int) (2 * (n : Int)) (by omega) A B l.length scap es ecap hr rfl rfl W hL)
  unfold Cs.a at HW HBe HAs
  dsimp only at HW HBe HAs
  have hS0 : W0.cell? ⟨w.heap.size, 0, none⟩ = some (.int .u32 (n : Int)) ∧ W0.cell? ⟨w.heap.size, 1, none⟩ = some (.slice A l.length scap) ∧ W0.cell? ⟨w.heap.size, 2, none⟩ = some (.slice B es.length ecap) ∧ W0.cell? ⟨w.heap.size, 3, none⟩ = some (.int .i64 cbeh) ∧ W0.cell? ⟨w.heap.size, 4, none⟩ = some (.int .i64 croom) ∧ W0.cell? ⟨w.heap.size, 5, none⟩ = some (.int .u32 csrc) ∧ W0.cell? ⟨w.heap.size, 6, none⟩ = some (csrcs) ∧ W0.cell? ⟨w.heap.size, 7, none⟩ = some (.int .i64 ckind) ∧ W0.cell? ⟨w.heap.size, 8, none⟩ = some (.int .u32 cra) ∧ W0.cell? ⟨w.heap.size, 9, none⟩ = some (.int .u32 crb) ∧ W0.cell? ⟨w.heap.size, 10, none⟩ = some (.int .u32 crc) ∧ W0.cell? ⟨w.heap.size, 11, none⟩ = some (.int .u32 cdamp) ∧ W0.cell? ⟨w.heap.size, 12, none⟩ = some (.int .i64 crounds) ∧ W0.cell? ⟨w.heap.size, 13, none⟩ = some (.int .u64 cseed) := ⟨Row.get C0 (i := 0) rfl, Row.get C0 (i := 1) rfl, Row.get C0 (i := 2) rfl, Row.get C0 (i := 3) rfl, Row.get C0 (i := 4) rfl, Row.get C0 (i := 5) rfl, Row.get C0 (i := 6) rfl, Row.get C0 (i := 7) rfl, Row.get C0 (i := 8) rfl, Row.get C0 (i := 9) rfl, Row.get C0 (i := 10) rfl, Row.get C0 (i := 11) rfl, Row.get C0 (i := 12) rfl, Row.get C0 (i := 13) rfl⟩
  have HA0 := Lib.hid (hA.below B0)
  have HA := Lib.hid hA
  have HB := Lib.hid hB
  have C0 := Lib.hid C0
  have B0 := Lib.hid B0
  clear hA hB hRR hbh
  go_enter Try.func11, Try.ntmps11
  go_wp2_with fail
  refine (states A l scap hrl W0 (HA0.out.more (by omega))).mono ?_
  rintro e w1 ⟨gm, mcap, rfl, hgm, hmc, hK1, hb1⟩
  clear hW0 hS0
  have C1 := C0.out.below hb1 C0.out.lt
  have B1 := B0.out.trans (hb1.mono (by omega))
  have hS1 : w1.cell? ⟨w.heap.size, 0, none⟩ = some (.int .u32 (n : Int)) ∧ w1.cell? ⟨w.heap.size, 1, none⟩ = some (.slice A l.length scap) ∧ w1.cell? ⟨w.heap.size, 2, none⟩ = some (.slice B es.length ecap) ∧ w1.cell? ⟨w.heap.size, 3, none⟩ = some (.int .i64 cbeh) ∧ w1.cell? ⟨w.heap.size, 4, none⟩ = some (.int .i64 croom) ∧ w1.cell? ⟨w.heap.size, 5, none⟩ = some (.int .u32 csrc) ∧ w1.cell? ⟨w.heap.size, 6, none⟩ = some (csrcs) ∧ w1.cell? ⟨w.heap.size, 7, none⟩ = some (.int .i64 ckind) ∧ w1.cell? ⟨w.heap.size, 8, none⟩ = some (.int .u32 cra) ∧ w1.cell? ⟨w.heap.size, 9, none⟩ = some (.int .u32 crb) ∧ w1.cell? ⟨w.heap.size, 10, none⟩ = some (.int .u32 crc) ∧ w1.cell? ⟨w.heap.size, 11, none⟩ = some (.int .u32 cdamp) ∧ w1.cell? ⟨w.heap.size, 12, none⟩ = some (.int .i64 crounds) ∧ w1.cell? ⟨w.heap.size, 13, none⟩ = some (.int .u64 cseed) := ⟨Row.get C1 (i := 0) rfl, Row.get C1 (i := 1) rfl, Row.get C1 (i := 2) rfl, Row.get C1 (i := 3) rfl, Row.get C1 (i := 4) rfl, Row.get C1 (i := 5) rfl, Row.get C1 (i := 6) rfl, Row.get C1 (i := 7) rfl, Row.get C1 (i := 8) rfl, Row.get C1 (i := 9) rfl, Row.get C1 (i := 10) rfl, Row.get C1 (i := 11) rfl, Row.get C1 (i := 12) rfl, Row.get C1 (i := 13) rfl⟩
  have K1 := Lib.hid hK1
  have hgm1 := hK1.lt
  have s1 := hb1.size
  have C1 := Lib.hid C1
  have B1 := Lib.hid B1
  clear hb1 hK1
  go_wp2_with fail
  refine (HW.out w1).mono ?_
  rintro e w2 ⟨gw, rfl, hgw, hrw, hb2⟩
  have X2 : St w w.heap.size gm gw #[.int .u32 (n : Int), .slice A l.length scap, .slice B es.length ecap, .int .i64 cbeh, .int .i64 croom, .int .u32 csrc, csrcs, .int .i64 ckind, .int .u32 cra, .int .u32 crb, .int .u32 crc, .int .u32 cdamp, .int .i64 crounds, .int .u64 cseed] l _ w2 := ⟨C1.out.below hb2 C1.out.lt, B1.out.trans (hb2.mono B1.out.size), K1.out.below hb2 hgm1, hrw⟩
  clear hS1
  have hS2 := X2.cells
  have s2 := hb2.size
  have hgw2 := hrw.lt
  have X2 := Lib.hid X2
  clear hrw hb2
  go_wp2_with fail
  go_region_held3 (fun w' => w'.cell? ⟨w.heap.size, 0, none⟩ = some (.int .u32 (n : Int)) ∧ w'.cell? ⟨w.heap.size, 1, none⟩ = some (.slice A l.length scap) ∧ w'.cell? ⟨w.heap.size, 2, none⟩ = some (.slice B es.length ecap) ∧ w'.cell? ⟨w.heap.size, 3, none⟩ = some (.int .i64 cbeh) ∧ w'.cell? ⟨w.heap.size, 4, none⟩ = some (.int .i64 croom) ∧ w'.cell? ⟨w.heap.size, 5, none⟩ = some (.int .u32 csrc) ∧ w'.cell? ⟨w.heap.size, 6, none⟩ = some (csrcs) ∧ w'.cell? ⟨w.heap.size, 7, none⟩ = some (.int .i64 ckind) ∧ w'.cell? ⟨w.heap.size, 8, none⟩ = some (.int .u32 cra) ∧ w'.cell? ⟨w.heap.size, 9, none⟩ = some (.int .u32 crb) ∧ w'.cell? ⟨w.heap.size, 10, none⟩ = some (.int .u32 crc) ∧ w'.cell? ⟨w.heap.size, 11, none⟩ = some (.int .u32 cdamp) ∧ w'.cell? ⟨w.heap.size, 12, none⟩ = some (.int .i64 crounds) ∧ w'.cell? ⟨w.heap.size, 13, none⟩ = some (.int .u64 cseed))
    (first
      | with_reducible exact P6.cells
      | with_reducible exact P5a.cells
      | with_reducible exact P5.cells
      | with_reducible exact (P4.alloc _).cells
      | with_reducible exact P4.cells
      | with_reducible exact (P3.alloc _).cells
      | with_reducible exact P3.cells
      | with_reducible exact (X2.out.alloc _).drew.cells
      | exact hS2)
    (first
      | (go_simp; go_at_call 40
         refine (HBe.out _).mono ?_
         rintro e w3 ⟨rfl, hb3⟩
         have s3 := hb3.size
         try simp only [World.size_alloc, World.size_drew] at s3
         (first | (have P3 := (X2.out.alloc _).drew.below hb3; have V3 : Row w3 w2.heap.size 79 #[.bool false, .int .u32 0, .int .i64 0] := ((Row.new w2 79 #[.bool false, .int .u32 0, .int .i64 0]).drew).below hb3 (by simp)) | (have P3 := X2.out.drew.below hb3)))
      | (go_simp; go_at_call 19
         refine (feed B es ecap bh hr h0 _ (by first | exact (HB.out.below P3.b).more P3.b.size | exact (HB.out.below (P3.alloc _).b).more (P3.alloc _).b.size)).mono ?_
         rintro e w4 ⟨b0, b1, rfl, hfa, htm, hff⟩
         have hb4 := htm.below
         have s4 := hb4.size
         try simp only [World.size_alloc] at s4
         have hff' : ∃ lo, gw < lo ∧ lo ≤ w4.heap.size ∧ FeedFrom lo w4 w4.heap.size b0 b1 es bh := ⟨_, by (try simp only [World.size_alloc]); omega, hb4.size, hff⟩
         (first | (have P4 := (P3.alloc _).below hb4; have V4 : Row w4 w3.heap.size 79 #[.bool false, .int .u32 0, .int .i64 0] := (Row.new w3 79 #[.bool false, .int .u32 0, .int .i64 0]).below hb4 (by simp)) | (have P4 := P3.below hb4; have V4 := V3.below hb4 V3.lt) | (have P4 := P3.below hb4)))
      | (go_simp; go_at_call 48
         obtain ⟨lo, hlo1, hlo2, hff⟩ := hff'
         refine (cores_all (n : Int) (by omega) R gw lo w4.heap.size (gm + 1) b0 b1 mcap hR5 (some ⟨gm, 0, none⟩) l es bh hr _ (by first | exact P4.k.lay | exact (P4.alloc _).k.lay) (by omega) (by first | exact hff | exact feed_alloc hff (Nat.le_refl _) _) hlo1 hlo2 (by simp) (by first | exact P4.r | exact (P4.alloc _).r)).mono ?_
         rintro e w5 ⟨⟨r, v, q, rfl, hno, hyes⟩, ⟨cs, r5, hcs⟩, t5⟩
         have s5 := t5.size
         try simp only [World.size_alloc] at s5
         (first | (have P5 := (P4.alloc _).turns t5 (by omega) (by omega) (by omega) r5; have V5 : Row w5 w4.heap.size 79 #[.bool false, .int .u32 0, .int .i64 0] := t5.row (Row.new w4 79 #[.bool false, .int .u32 0, .int .i64 0]) (by omega); have P6 := P5.set3 w4.heap.size (by omega) (by omega) (by omega) (by omega) r v q; have V6 := set3_row V5 r v q; have hv0 : w5.cell? ⟨w4.heap.size, 0, none⟩ = some (.bool false) := V5.get rfl; have hv1 : w5.cell? ⟨w4.heap.size, 1, none⟩ = some (.int .u32 0) := V5.get rfl; have hv2 : w5.cell? ⟨w4.heap.size, 2, none⟩ = some (.int .i64 0) := V5.get rfl; have hf0 := V5.free 0; have hf1 := V5.free 1; have hf2 := V5.free 2) | (have P5 := P4.turns t5 (by omega) (by omega) (by omega) r5; have V5 : Row w5 w3.heap.size 79 #[.bool false, .int .u32 0, .int .i64 0] := t5.row V4 (by omega); have P6 := P5.set3 w3.heap.size (by omega) (by omega) (by omega) (by omega) r v q; have V6 := set3_row V5 r v q; have hv0 : w5.cell? ⟨w3.heap.size, 0, none⟩ = some (.bool false) := V5.get rfl; have hv1 : w5.cell? ⟨w3.heap.size, 1, none⟩ = some (.int .u32 0) := V5.get rfl; have hv2 : w5.cell? ⟨w3.heap.size, 2, none⟩ = some (.int .i64 0) := V5.get rfl; have hf0 := V5.free 0; have hf1 := V5.free 1; have hf2 := V5.free 2) | (have P5 := P4.turns t5 (by omega) (by omega) (by omega) r5; have V5 : Row w5 w2.heap.size 79 #[.bool false, .int .u32 0, .int .i64 0] := t5.row V4 (by omega); have P6 := P5.set3 w2.heap.size (by omega) (by omega) (by omega) (by omega) r v q; have V6 := set3_row V5 r v q; have hv0 : w5.cell? ⟨w2.heap.size, 0, none⟩ = some (.bool false) := V5.get rfl; have hv1 : w5.cell? ⟨w2.heap.size, 1, none⟩ = some (.int .u32 0) := V5.get rfl; have hv2 : w5.cell? ⟨w2.heap.size, 2, none⟩ = some (.int .i64 0) := V5.get rfl; have hf0 := V5.free 0; have hf1 := V5.free 1; have hf2 := V5.free 2) | (have P5 := P4.turns t5 (by omega) (by omega) (by omega) r5; have P5a := P5.alloc (.cells #[.bool false, .int .u32 0, .int .i64 0] 79); have P6 := P5.alloc (.cells #[.bool r, .int .u32 v, .int .i64 q] 79); have V6 := Row.new w5 79 #[.bool r, .int .u32 v, .int .i64 q]))))
  all_goals
    have hS6 := P6.cells
    have hwn := hwn.out
    have hwm := hwm.out
    have X6 := Lib.hid P6
    have Y6 := Lib.hid V6
    have HC6 := Lib.hid (And.intro hcs (And.intro hno hyes))
    clear P6 V6 hcs hno hyes hff P5 P4 P3 r5 t5 hfa htm hb4 hb3 hS2
    try clear V5
    try clear V4
    try clear V3
    try clear P5a
    go_wp2_with fail
    go_region_held3 (fun w' => w'.cell? ⟨w.heap.size, 0, none⟩ = some (.int .u32 (n : Int)) ∧ w'.cell? ⟨w.heap.size, 1, none⟩ = some (.slice A l.length scap) ∧ w'.cell? ⟨w.heap.size, 2, none⟩ = some (.slice B es.length ecap) ∧ w'.cell? ⟨w.heap.size, 3, none⟩ = some (.int .i64 cbeh) ∧ w'.cell? ⟨w.heap.size, 4, none⟩ = some (.int .i64 croom) ∧ w'.cell? ⟨w.heap.size, 5, none⟩ = some (.int .u32 csrc) ∧ w'.cell? ⟨w.heap.size, 6, none⟩ = some (csrcs) ∧ w'.cell? ⟨w.heap.size, 7, none⟩ = some (.int .i64 ckind) ∧ w'.cell? ⟨w.heap.size, 8, none⟩ = some (.int .u32 cra) ∧ w'.cell? ⟨w.heap.size, 9, none⟩ = some (.int .u32 crb) ∧ w'.cell? ⟨w.heap.size, 10, none⟩ = some (.int .u32 crc) ∧ w'.cell? ⟨w.heap.size, 11, none⟩ = some (.int .u32 cdamp) ∧ w'.cell? ⟨w.heap.size, 12, none⟩ = some (.int .i64 crounds) ∧ w'.cell? ⟨w.heap.size, 13, none⟩ = some (.int .u64 cseed))
      (first
        | with_reducible exact P7.cells
        | exact hS6)
      (first
        | (go_simp; go_at_call 42; refine (refSized (n : Int) _).mono ?_; rintro e w6 ⟨rfl, rfl⟩)
        | (go_simp; go_at_call 41
           refine (HAs.out _ ((HB.out.below X6.out.drew.b).more X6.out.drew.b.size)).mono ?_
           rintro e w7 ⟨rfl, hb7⟩
           have P7 := X6.out.drew.below hb7
           have V7 := Y6.out.drew.below hb7 Y6.out.lt))
    have hS7 := P7.cells
    have X7 := Lib.hid P7
    have Y7 := Lib.hid V7
    have hCV := P7.c.lt
    have hKV := P7.k.lt
    have hGV := P7.r.lt
    have X8 := Lib.hid (P7.alloc (.cells #[.bool false, .int .u32 0, .int .i64 0] 79))
    have Y8 := Lib.hid (V7.alloc (.cells #[.bool false, .int .u32 0, .int .i64 0] 79))
    have Z8 := Lib.hid (Row.new w7 79 #[.bool false, .int .u32 0, .int .i64 0])
    have hVV := V7.lt
    obtain ⟨E, hE⟩ : ∃ E, askC (madeCode (n : Int)) n l.length R (2 * n) bh es = E := ⟨_, rfl⟩
    obtain ⟨hcs, hno, hyes⟩ := HC6.out
    rw [hE] at hno hyes ⊢
    clear P7 V7 hS6
    by_cases hE0 : E = 0
    · subst hE0
      obtain ⟨q1, q2, q3, q4⟩ := ask_zero2 hE
      obtain ⟨s1, hs1, hs1l, hs10, hag⟩ := hyes rfl
      rw [Int.toNat_natCast] at hs1 hs1l hag
      have hS8 := X8.out.cells
      have HWc := Lib.hid (fun W hL => CoreNum.coreNumbers n (by omega) q1 B es ecap hr (fun x hx => q4 x hx) W hL)
      have HQ := Lib.hid (And.intro hcs (And.intro hag (And.intro hs1 (And.intro hs1l hs10))))
      clear hno hyes hS7 hE q4 hcs hag hs1 hs1l hs10
      go_wp2_with fail
      go_region_held3 (fun w' => w'.cell? ⟨w.heap.size, 0, none⟩ = some (.int .u32 (n : Int)) ∧ w'.cell? ⟨w.heap.size, 1, none⟩ = some (.slice A l.length scap) ∧ w'.cell? ⟨w.heap.size, 2, none⟩ = some (.slice B es.length ecap) ∧ w'.cell? ⟨w.heap.size, 3, none⟩ = some (.int .i64 cbeh) ∧ w'.cell? ⟨w.heap.size, 4, none⟩ = some (.int .i64 croom) ∧ w'.cell? ⟨w.heap.size, 5, none⟩ = some (.int .u32 csrc) ∧ w'.cell? ⟨w.heap.size, 6, none⟩ = some (csrcs) ∧ w'.cell? ⟨w.heap.size, 7, none⟩ = some (.int .i64 ckind) ∧ w'.cell? ⟨w.heap.size, 8, none⟩ = some (.int .u32 cra) ∧ w'.cell? ⟨w.heap.size, 9, none⟩ = some (.int .u32 crb) ∧ w'.cell? ⟨w.heap.size, 10, none⟩ = some (.int .u32 crc) ∧ w'.cell? ⟨w.heap.size, 11, none⟩ = some (.int .u32 cdamp) ∧ w'.cell? ⟨w.heap.size, 12, none⟩ = some (.int .i64 crounds) ∧ w'.cell? ⟨w.heap.size, 13, none⟩ = some (.int .u64 cseed))
        (first
          | with_reducible exact P11.cells
          | with_reducible exact P10.cells
          | with_reducible exact P9.cells
          | exact hS8)
        (first
          | (go_simp; go_at_call 49
             refine (HWc.out _ ((HB.out.below X8.out.drew.b).more X8.out.drew.b.size)).mono ?_
             rintro e w9 ⟨gt, s2, rfl, hgt, hs2, hs2l, hs20, hfr, hb9⟩
             have P9 := X8.out.drew.below hb9
             have Y9 := Y8.out.drew.below hb9 Y8.out.lt
             have Z9 := Z8.out.drew.below hb9 Z8.out.lt)
          | (go_simp; go_at_call 43
             refine (Faults.words n 0 gt scap n (by decide) (by omega) A l (by omega) (truthC s2.2) (by simp [truthC, CoreNum.pre1, hs2l]) w9 ((HA.out.below P9.b).more P9.b.size) (by rw [← truthC_fc]; exact hfr)).mono ?_
             rintro e w10 ⟨htell, hb10⟩
             obtain rfl : e = .returned (.agg #[.bool r, .int .u32 v, .int .i64 q]) := (htell _ (notes_foundC s2.2 l n hs2l n (Nat.le_refl _))).trans (congrArg Ending.returned (by rw [HQ.out.2.1, Peel.reached_end HQ.out.2.2.1 hs2 HQ.out.2.2.2.2 hs20]))
             have P10 := P9.below hb10
             have Y10 := Y9.below hb10 Y9.lt
             have Z10 := Z9.below hb10 Z9.lt
             have hv0 : w10.cell? ⟨w7.heap.size, 0, none⟩ = some (.bool false) := Z10.get rfl
             have hv1 : w10.cell? ⟨w7.heap.size, 1, none⟩ = some (.int .u32 0) := Z10.get rfl
             have hv2 : w10.cell? ⟨w7.heap.size, 2, none⟩ = some (.int .i64 0) := Z10.get rfl
             have hf0 := Z10.free 0
             have hf1 := Z10.free 1
             have hf2 := Z10.free 2
             have P11 := P10.set3 w7.heap.size (by omega) (by omega) (by omega) (by omega) r v q
             have Z11 := set3_row Z10 r v q
             have Y11 := ((Y10.other (a := ⟨w7.heap.size, 0, none⟩) (Nat.ne_of_lt hVV) (.bool r)).other (a := ⟨w7.heap.size, 1, none⟩) (Nat.ne_of_lt hVV) (.int .u32 v)).other (a := ⟨w7.heap.size, 2, none⟩) (Nat.ne_of_lt hVV) (.int .i64 q)))
      obtain ⟨X, hX⟩ : ∃ X, ((w10.setCell ⟨w7.heap.size, 0, none⟩ (.bool r)).setCell ⟨w7.heap.size, 1, none⟩ (.int .u32 v)).setCell ⟨w7.heap.size, 2, none⟩ (.int .i64 q) = X := ⟨_, rfl⟩
      have PX := hX ▸ P11
      have YX := hX ▸ Y11
      have ZX := hX ▸ Z11
      rw [hX]
      clear hX P11 Y11 Z11 P10 Y10 Z10 P9 Y9 Z9 hv0 hv1 hv2 hf0 hf1 hf2 htell hb9 hb10 hfr hS8
      have hy0 := YX.get (i := 0) rfl
      have hy1 := YX.get (i := 1) rfl
      have hy2 := YX.get (i := 2) rfl
      have hz0 := ZX.get (i := 0) rfl
      have hz1 := ZX.get (i := 1) rfl
      have hz2 := ZX.get (i := 2) rfl
      simp only [List.getElem_toArray, List.getElem_cons_zero, List.getElem_cons_succ] at hy0 hy1 hy2 hz0 hz1 hz2
      have PX := Lib.hid PX
      clear YX ZX
      go_wp2_with fail
      refine (agree_ok r v q _).mono ?_
      rintro e w12 ⟨rfl, hb12⟩
      have P12 := PX.out.below hb12
      have hS12 := P12.cells
      have P12 := Lib.hid P12
      clear hy0 hy1 hy2 hz0 hz1 hz2
      go_wp2_with fail
      refine (kept gm mcap scap A l hmc hrl w12 P12.out.k ((HA.out.below P12.out.b).more P12.out.b.size)).mono ?_
      rintro e w13 ⟨rfl, hb13⟩
      have P13 := P12.out.below hb13
      have hS13 := P13.cells
      have P13 := Lib.hid P13
      clear hS12
      go_wp2_with fail
      refine (spare2 gw R n R cs (fun k h1 h2 => HQ.out.1 k (by simpa using h1) h2) (by omega) hR5 w13 P13.out.r).mono ?_
      rintro e w14 ⟨rfl, hb14⟩
      have P14 := Lib.hid (P13.out.below hb14)
      clear hS13
      go_wp2
      go_ret
      exact ⟨rfl, P14.out.b⟩
    · obtain ⟨rfl, rfl, rfl⟩ : r = false ∧ v = 0 ∧ q = 0 := by
        have := hno hE0
        simpa using this
      have hEb : (E == 0) = false := by simpa using hE0
      have HC := Lib.hid hcs
      have HE0 := Lib.hid hE0
      clear hno hyes hcs hE hE0 hS7
      obtain ⟨X, hX⟩ : ∃ X, w7.alloc (.cells #[.bool false, .int .u32 0, .int .i64 0] 79) = X := ⟨_, rfl⟩
      have PX := hX ▸ X8.out
      have YX := hX ▸ Y8.out
      have ZX := hX ▸ Z8.out
      have hy0 := YX.get (i := 0) rfl
      have hy1 := YX.get (i := 1) rfl
      have hy2 := YX.get (i := 2) rfl
      have hz0 := ZX.get (i := 0) rfl
      have hz1 := ZX.get (i := 1) rfl
      have hz2 := ZX.get (i := 2) rfl
      simp only [List.getElem_toArray, List.getElem_cons_zero, List.getElem_cons_succ] at hy0 hy1 hy2 hz0 hz1 hz2
      have PX := Lib.hid PX
      clear YX ZX
      go_wp2_with fail
      refine (agree_no E HE0.out _).mono ?_
      rintro e w12 ⟨rfl, hb12⟩
      have P12 := PX.out.below hb12
      have hS12 := P12.cells
      have P12 := Lib.hid P12
      clear hy0 hy1 hy2 hz0 hz1 hz2
      go_wp2_with fail
      refine (kept gm mcap scap A l hmc hrl w12 P12.out.k ((HA.out.below P12.out.b).more P12.out.b.size)).mono ?_
      rintro e w13 ⟨rfl, hb13⟩
      have P13 := P12.out.below hb13
      have hS13 := P13.cells
      have P13 := Lib.hid P13
      clear hS12
      go_wp2_with fail
      refine (spare2 gw R n R cs (fun k h1 h2 => HC.out k (by simpa using h1) h2) (by omega) hR5 w13 P13.out.r).mono ?_
      rintro e w14 ⟨rfl, hb14⟩
      have P14 := Lib.hid (P13.out.below hb14)
      clear hS13
      go_wp2
      go_ret
      exact ⟨rfl, P14.out.b⟩
theorem own : ownKnob Try.prog.godebug = none := by kernel_rfl
set_option maxRecDepth 100000 in
theorem lifted (os : Os) (started : os.Started) (H : Type) (enc : TypeId × Value → H) :
    ReturnsInHanded {} Try.checked os 11 .any (Rows.auditCoresSpec.pre6 enc Try.prog Try.f11 Rows.auditCoresRow.domain false) (Rows.auditCoresSpec.post enc Try.prog Try.f11 false true false false) := by
  refine returnsInHanded_of_change_sized (C := Try.checked) own started (by kernel_rfl) Try.func11
    (ChangeSpec.witness6 (enc := enc) (C := Try.checked) false ⟨#[], #[.agg #[.int .u32 0, .slice none 0 0, .slice none 0 0, .int .i64 0, .int .i64 0, .int .u32 0, .slice none 0 0, .int .i64 0, .int .u32 0, .int .u32 0, .int .u32 0, .int .u32 0, .int .i64 0, .int .u64 0]], []⟩ 8 (by kernel_rfl) (by kernel_rfl) (by kernel_rfl) (by kernel_rfl)) ?_
  intro W base args ds gs before hval0 hW hcnd hsz0 _
  have hsz : (DataW.weightsEach Try.prog (Try.f11.params.toList ++ Rows.auditCoresSpec.plain.varTypes Try.prog) (ds ++ gs)).all (· ≤ reachBytes) = true := hsz0
  have hval : ∀ (j : Nat) t v, Try.f11.params[j]? = some t → args[j]? = some v → Value.okWide Try.prog W .any base t v := hval0
  have hW' := hW
  obtain ⟨p, q, hA0, hV, rfl, hfz, hnd⟩ := hW
  have hA : DataW.TrodAll enc Try.prog W 0 (fun _ => true) true Try.f11.params.toList args.toList ds p := hA0
  rw [Try.params11] at hA hval hsz
  obtain ⟨v0, vs0, d0, ds0, p0, q0, hargs, rfl, rfl, h0, r0⟩ := trodAll_cons hA
  obtain ⟨rfl, rfl, rfl⟩ := trodAll_nil r0
  obtain rfl : args = #[v0] := by cases args; simp_all
  obtain ⟨rfl, rfl⟩ := trodVars_none hV
  have hlt : ∀ x ∈ p0, x.block < W.heap.size := fun x hx => hW'.lt x (by simpa using hx)
  have k0 := h0
  obtain ⟨fu, hfu⟩ := h0
  obtain ⟨n, beh, room, src, kind, ra, rb, rc, damp, rounds, seed, srcs, A, B, l, es, scap, ecap, parts, d1, d2, hcs, hn, hA2, hA3, hlA, hB2, hB3, hlB, hx, hp1, hp2, hs1, hs2⟩ := Case.open_case hfu
  obtain ⟨cs', rfl, -⟩ := okWide_struct Try.underlying74 (hval 0 74 v0 rfl rfl)
  obtain rfl := Case.arr_of hcs
  obtain rfl : d0 = .agg parts := hx
  obtain ⟨z1, z2⟩ := Case.case_sizes hsz hp1 hp2 hs1 hs2
  obtain ⟨n, rfl⟩ := Int.eq_ofNat_of_zero_le hn.1
  refine (walk _ _ _ _ _ _ _ _ _ _ _ _ (by omega) _ _ _ _ _ _ (by omega) (by omega) hB2 W hlA hlB).mono fun e W' ⟨he, bel⟩ => ?_
  subst he
  exact ⟨_, rfl, _, _, _, [], _, [], hW', trodAll_mk1 (shut_bool Try.underlying4 _), (trodAll_cons_mk (Below.trod (by kernel_rfl) (by kernel_rfl) (of_decide_eq_true (by kernel_rfl)) k0 bel (fun x hx => hlt x (by simp [hx]))) trodAll_mk0), rfl, bel.frame _, fun h => by cases h⟩
theorem over : Rows.auditCoresRow.holds Try.pinned (OpenSpec.ofChange Rows.auditCoresSpec) :=
  OpenClaim.holds_of_wide 11 Try.f11 rfl rfl rfl rfl rfl rfl rfl ⟨rfl, rfl, rfl, rfl, rfl⟩ rfl rfl rfl rfl rfl (by kernel_rfl) Try.func11 (by kernel_rfl)
    (of_decide_eq_true (by kernel_rfl)) (by unfold Func.isWrapper; first | (rw [if_pos (by decide +kernel)]; kernel_rfl) | (rw [if_neg (by decide +kernel)]; exact ⟨rfl, rfl⟩))
    (fun os started H enc _ => lifted os started H enc)
theorem proved : Rows.AuditCoresSaid := over
#print axioms proved
end Go.Proofs.Ytepljdnhnnpdmaa.auditCores
