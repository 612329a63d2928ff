/-
  AuditSets: the audits of independent sets and of colours: their verdicts and errors are the document's; the states are kept, the room behind what is asked for too. No condition.
-/
import Derived.Test.YtepljdnhnnpdmaaRows
import Derived.Test.YtepljdnhnnpdmaaSets11
import Derived.Test.YtepljdnhnnpdmaaCaseOpen2
import Derived.Deep.DeepCutAuto
import Derived.Deep.RegionHeld3
import Derived.ChangeOld
import Derived.SizedLaws
set_option linter.unusedVariables false
set_option linter.unusedSimpArgs false
namespace Go.Proofs.Ytepljdnhnnpdmaa.auditSets
open Go.RowKit Go.Shelf Go.ChangeShapes Go.WideShapes Go.ChangeAt K Feed Desk Forest Case Faults Labels Cores Sets Rank

theorem _root_.Go.Proofs.Ytepljdnhnnpdmaa.Case.Kept.lay {W : World} {g : Nat} {l : List S8} (h : Kept W g l) : Lay W (g + 1) (some ⟨g, 0, none⟩) (svs l) := fun hne =>
  ⟨g, 0, rfl, by omega, fun j u hu => by
    have := h.cells j u (by
      rw [show svs (l ++ [m77, m78]) = svs l ++ svs [m77, m78] by simp [svs], List.getElem?_append_left (List.getElem?_eq_some_iff.1 hu).1]
      exact hu)
    rwa [Nat.zero_add]⟩
theorem feed_alloc {lo hi b0 b1 : Nat} {W : World} {es : List E3} {bh : Int} (h : FeedFrom lo W hi b0 b1 es bh) (hh : hi ≤ W.heap.size) (o : Obj) : FeedFrom lo (W.alloc o) hi b0 b1 es bh := fun W' h' =>
  h W' fun k h1 h2 => (h' k h1 h2).trans (Below.heap_alloc W o k (by omega))
/-- What stays throughout: the case's cells, the list with its marks, the room. -/
structure St (w : World) (C gm gw : Nat) (arr : Array Value) (l : List S8) (cs : List Value) (X : World) : Prop where
  c : Row X C 74 arr
  b : Below w.heap.size w X
  k : Kept X gm l
  r : Row X gw 53 cs.toArray
section
variable {w X Y : World} {C gm gw : Nat} {arr : Array Value} {l : List S8} {cs : List Value}
theorem St.below (h : St w C gm gw arr l cs X) (hb : Below X.heap.size X Y) : St w C gm gw arr l cs Y := ⟨h.c.below hb h.c.lt, h.b.trans (hb.mono h.b.size), h.k.below hb h.k.lt, h.r.below hb h.r.lt⟩
theorem St.alloc (h : St w C gm gw arr l cs X) (o : Obj) : St w C gm gw arr l cs (X.alloc o) := h.below ((Below.refl _ _).alloc (Nat.le_refl _) o)
theorem St.drew (h : St w C gm gw arr l cs X) : St w C gm gw arr l cs X.drew := h.below (Below.refl _ X).drew
theorem St.set (h : St w C gm gw arr l cs X) {p : Addr} (h1 : C ≠ p.block) (h2 : gm ≠ p.block) (h3 : gw ≠ p.block) (h4 : w.heap.size ≤ p.block) (v : Value) : St w C gm gw arr l cs (X.setCell p v) :=
  ⟨h.c.other h1 v, h.b.setCell h4 v, ⟨by simpa using h.k.lt, fun j u hu => by
    have := h.k.cells j u hu
    unfold World.cell? at this ⊢
    simp only at this ⊢
    rw [heap_setCell_other X p gm v h2]
    exact this⟩, h.r.other h3 v⟩
theorem St.set3 (h : St w C gm gw arr l cs X) (V : Nat) (h1 : C ≠ V) (h2 : gm ≠ V) (h3 : gw ≠ V) (h4 : w.heap.size ≤ V) (r : Bool) (v q : Int) :
    St w C gm gw arr l cs (((X.setCell ⟨V, 0, none⟩ (.bool r)).setCell ⟨V, 1, none⟩ (.int .u32 v)).setCell ⟨V, 2, none⟩ (.int .i64 q)) := ((h.set (p := ⟨V, 0, none⟩) h1 h2 h3 h4 _).set (p := ⟨V, 1, none⟩) h1 h2 h3 h4 _).set (p := ⟨V, 2, none⟩) h1 h2 h3 h4 _
theorem set3_row {V : Nat} {r' : Bool} {v' q' : Int} (h : Row X V 79 #[.bool r', .int .u32 v', .int .i64 q']) (r : Bool) (v q : Int) :
    Row (((X.setCell ⟨V, 0, none⟩ (.bool r)).setCell ⟨V, 1, none⟩ (.int .u32 v)).setCell ⟨V, 2, none⟩ (.int .i64 q)) V 79 #[.bool r, .int .u32 v, .int .i64 q] := ((h.set 0 (.bool r)).set 1 (.int .u32 v)).set 2 (.int .i64 q)
theorem St.turns (h : St w C gm gw arr l cs X) (t : Turns (fun k => k = gw) X Y) (h1 : C ≠ gw) (h2 : gm ≠ gw) (h3 : w.heap.size ≤ gw) {cs' : List Value} (hr : Row Y gw 53 cs'.toArray) : St w C gm gw arr l cs' Y :=
  ⟨t.row h.c h1, h.b.trans (t.below (n := w.heap.size) h.b.size (fun k h => by omega)), ⟨Nat.lt_of_lt_of_le h.k.lt t.size, fun j u hu => by
    have := h.k.cells j u hu
    unfold World.cell? at this ⊢
    simp only at this ⊢
    rw [t.block gm h.k.lt h2]
    exact this⟩, hr⟩
end
theorem St.cells {n a c : Nat} {cn : Int} {w X : World} {gm gw : Nat} {l : List S8} {cs : List Value} {cbeh croom csrc ckind cdamp crounds cseed : Int} {csrcs : Value} {A B : Option Addr} {es : List E3} {scap ecap : Nat}
    (h : St w w.heap.size gm gw #[.int .u32 cn, .slice A l.length scap, .slice B es.length ecap, .int .i64 cbeh, .int .i64 croom, .int .u32 csrc, csrcs, .int .i64 ckind, .int .u32 (n : Int), .int .u32 (a : Int), .int .u32 (c : Int), .int .u32 cdamp, .int .i64 crounds, .int .u64 cseed] l cs X) : X.cell? ⟨w.heap.size, 0, none⟩ = some (.int .u32 cn) ∧ X.cell? ⟨w.heap.size, 1, none⟩ = some (.slice A l.length scap) ∧ X.cell? ⟨w.heap.size, 2, none⟩ = some (.slice B es.length ecap) ∧ X.cell? ⟨w.heap.size, 3, none⟩ = some (.int .i64 cbeh) ∧ X.cell? ⟨w.heap.size, 4, none⟩ = some (.int .i64 croom) ∧ X.cell? ⟨w.heap.size, 5, none⟩ = some (.int .u32 csrc) ∧ X.cell? ⟨w.heap.size, 6, none⟩ = some (csrcs) ∧ X.cell? ⟨w.heap.size, 7, none⟩ = some (.int .i64 ckind) ∧ X.cell? ⟨w.heap.size, 8, none⟩ = some (.int .u32 (n : Int)) ∧ X.cell? ⟨w.heap.size, 9, none⟩ = some (.int .u32 (a : Int)) ∧ X.cell? ⟨w.heap.size, 10, none⟩ = some (.int .u32 (c : Int)) ∧ X.cell? ⟨w.heap.size, 11, none⟩ = some (.int .u32 cdamp) ∧ X.cell? ⟨w.heap.size, 12, none⟩ = some (.int .i64 crounds) ∧ X.cell? ⟨w.heap.size, 13, none⟩ = some (.int .u64 cseed) := ⟨Row.get h.c (i := 0) rfl, Row.get h.c (i := 1) rfl, Row.get h.c (i := 2) rfl, Row.get h.c (i := 3) rfl, Row.get h.c (i := 4) rfl, Row.get h.c (i := 5) rfl, Row.get h.c (i := 6) rfl, Row.get h.c (i := 7) rfl, Row.get h.c (i := 8) rfl, Row.get h.c (i := 9) rfl, Row.get h.c (i := 10) rfl, Row.get h.c (i := 11) rfl, Row.get h.c (i := 12) rfl, Row.get h.c (i := 13) rfl⟩
/-- What holds behind the first audit. -/
structure CutS (w wx : World) (gm gw Vb R n : Nat) (arr : Array Value) (l : List S8) (E : Int) (vd : Value) (r : Bool) (v q : Int) (VV : List Nat) : Prop where
  st : St w w.heap.size gm gw arr l (fc VV) wx
  rv : Row wx Vb 79 #[.bool r, .int .u32 v, .int .i64 q]
  lo : w.heap.size < Vb
  nm : gm ≠ Vb
  nw : gw ≠ Vb
  len : VV.length = R
  mark : ∀ k, n ≤ k → k < R → VV[k]? = some 99
  no : E ≠ 0 → Value.agg #[.bool r, .int .u32 v, .int .i64 q] = .agg #[.bool false, .int .u32 0, .int .i64 0]
  yes : E = 0 → Value.agg #[.bool r, .int .u32 v, .int .i64 q] = vd
theorem fc99 (R : Nat) : List.replicate R (Value.int .u64 99) = fc (List.replicate R 99) := by simp [fc]
theorem spareS (g R n cap : Nat) (VV : List Nat) (hm : ∀ k, n ≤ k → k < R → VV[k]? = some 99) (hn : n ≤ 4294967295) (hR : R ≤ 5000) (w : World) (hr : Row w g 53 (fc VV).toArray) :
    Calls Try.prog 47 #[.slice (some ⟨g, 0, none⟩) R cap, .int .i64 n] w fun e w' => e = .returned (.bool true) ∧ Below w.heap.size w w' :=
  spare g R n cap (fc VV) (fun k h1 h2 => by simp [fc, hm k h1 h2]) (by omega) hR w hr
set_option maxRecDepth 100000 in
set_option maxHeartbeats 8000000 in
theorem walk (n a c : Nat) (cn cbeh croom csrc ckind cdamp crounds cseed : Int) (csrcs : Value) (hn : n ≤ 4294967295) (ha : a ≤ 4294967295) (hc : c ≤ 4294967295) (A B : Option Addr) (l : List S8) (es : List E3) (scap ecap : Nat)
    (hrl : (l.length + 2) * 64 ≤ 140737488355328) (hr : es.length * 12 ≤ 140737488351232) (h0 : B = none → es.length = 0 ∧ ecap = 0) (w : World) (hA : Lay w w.heap.size A (svs l)) (hB : Lay w w.heap.size B (evs es)) :
    Calls Try.prog 12 #[.agg #[.int .u32 cn, .slice A l.length scap, .slice B es.length ecap, .int .i64 cbeh, .int .i64 croom, .int .u32 csrc, csrcs, .int .i64 ckind, .int .u32 (n : Int), .int .u32 (a : Int), .int .u32 (c : Int), .int .u32 cdamp, .int .i64 crounds, .int .u64 cseed]] w fun e w' => e = .returned (.bool true) ∧ Below w.heap.size w w' := by
  obtain ⟨W0, hW0⟩ : ∃ W0, w.alloc (.cells #[.int .u32 cn, .slice A l.length scap, .slice B es.length ecap, .int .i64 cbeh, .int .i64 croom, .int .u32 csrc, csrcs, .int .i64 ckind, .int .u32 (n : Int), .int .u32 (a : Int), .int .u32 (c : Int), .int .u32 cdamp, .int .i64 crounds, .int .u64 cseed] 74) = W0 := ⟨_, rfl⟩
  have C0 := Row.new w 74 #[.int .u32 cn, .slice A l.length scap, .slice B es.length ecap, .int .i64 cbeh, .int .i64 croom, .int .u32 csrc, csrcs, .int .i64 ckind, .int .u32 (n : Int), .int .u32 (a : Int), .int .u32 (c : Int), .int .u32 cdamp, .int .i64 crounds, .int .u64 cseed]
  have B0 := (Below.refl w.heap.size w).alloc (Nat.le_refl _) (.cells #[.int .u32 cn, .slice A l.length scap, .slice B es.length ecap, .int .i64 cbeh, .int .i64 croom, .int .u32 csrc, csrcs, .int .i64 ckind, .int .u32 (n : Int), .int .u32 (a : Int), .int .u32 (c : Int), .int .u32 cdamp, .int .i64 crounds, .int .u64 cseed] 74)
  have S0 : W0.heap.size = w.heap.size + 1 := by rw [← hW0]; simp
  rw [hW0] at C0 B0
  obtain ⟨R, hRR⟩ : ∃ R, Cs.r ⟨cn, .slice A l.length scap, .slice B es.length ecap, cbeh, croom, csrc, csrcs, ckind, (n : Int), (a : Int), (c : Int), cdamp, crounds, cseed⟩ = R := ⟨_, rfl⟩
  obtain ⟨bh, hbh⟩ : ∃ bh, Cs.b ⟨cn, .slice A l.length scap, .slice B es.length ecap, cbeh, croom, csrc, csrcs, ckind, (n : Int), (a : Int), (c : Int), cdamp, crounds, cseed⟩ = bh := ⟨_, rfl⟩
  have hR5 : R ≤ 5000 := by rw [← hRR]; unfold Cs.r; omega
  have hwn0 : IntKind.i64.wrap (n : Int) = n := IntWalk.i64_in _ ⟨by omega, by omega⟩
  have hwn := Lib.hid hwn0
  clear hwn0
  have HW := Lib.hid (fun W => hRR ▸ words ⟨cn, .slice A l.length scap, .slice B es.length ecap, cbeh, croom, csrc, csrcs, ckind, (n : Int), (a : Int), (c : Int), cdamp, crounds, cseed⟩ W)
  have HBe := Lib.hid (fun W => hbh ▸ behind ⟨cn, .slice A l.length scap, .slice B es.length ecap, cbeh, croom, csrc, csrcs, ckind, (n : Int), (a : Int), (c : Int), cdamp, crounds, cseed⟩ W)
  have HAs := Lib.hid (fun W hL => hRR ▸ hbh ▸ asked ⟨cn, .slice A l.length scap, .slice B es.length ecap, cbeh, croom, csrc, csrcs, ckind, (n : Int), (a : Int), (c : Int), cdamp, crounds, cseed⟩ (isOrder n a c) (n : Int) (n : Int) (by omega) A B l.length scap es ecap hr rfl rfl W hL)
  have HOr := Lib.hid (fun W => ordered18 n a c hn ha hc W)
  unfold Cs.a at HW HBe HAs
  dsimp only at HW HBe HAs
  have hS0 : W0.cell? ⟨w.heap.size, 0, none⟩ = some (.int .u32 cn) ∧ W0.cell? ⟨w.heap.size, 1, none⟩ = some (.slice A l.length scap) ∧ W0.cell? ⟨w.heap.size, 2, none⟩ = some (.slice B es.length ecap) ∧ W0.cell? ⟨w.heap.size, 3, none⟩ = some (.int .i64 cbeh) ∧ W0.cell? ⟨w.heap.size, 4, none⟩ = some (.int .i64 croom) ∧ W0.cell? ⟨w.heap.size, 5, none⟩ = some (.int .u32 csrc) ∧ W0.cell? ⟨w.heap.size, 6, none⟩ = some (csrcs) ∧ W0.cell? ⟨w.heap.size, 7, none⟩ = some (.int .i64 ckind) ∧ W0.cell? ⟨w.heap.size, 8, none⟩ = some (.int .u32 (n : Int)) ∧ W0.cell? ⟨w.heap.size, 9, none⟩ = some (.int .u32 (a : Int)) ∧ W0.cell? ⟨w.heap.size, 10, none⟩ = some (.int .u32 (c : Int)) ∧ W0.cell? ⟨w.heap.size, 11, none⟩ = some (.int .u32 cdamp) ∧ W0.cell? ⟨w.heap.size, 12, none⟩ = some (.int .i64 crounds) ∧ W0.cell? ⟨w.heap.size, 13, none⟩ = some (.int .u64 cseed) := ⟨Row.get C0 (i := 0) rfl, Row.get C0 (i := 1) rfl, Row.get C0 (i := 2) rfl, Row.get C0 (i := 3) rfl, Row.get C0 (i := 4) rfl, Row.get C0 (i := 5) rfl, Row.get C0 (i := 6) rfl, Row.get C0 (i := 7) rfl, Row.get C0 (i := 8) rfl, Row.get C0 (i := 9) rfl, Row.get C0 (i := 10) rfl, Row.get C0 (i := 11) rfl, Row.get C0 (i := 12) rfl, Row.get C0 (i := 13) rfl⟩
  have HA0 := Lib.hid (hA.below B0)
  have HA := Lib.hid hA
  have HB := Lib.hid hB
  have C0 := Lib.hid C0
  have B0 := Lib.hid B0
  obtain ⟨E, hE⟩ : ∃ E, askC (isOrder n a c) n l.length R n bh es = E := ⟨_, rfl⟩
  rw [hE] at HAs
  have HE := Lib.hid hE
  clear hA hB hRR hbh hE
  go_enter Try.func12, Try.ntmps12
  go_wp2_with fail
  refine (states A l scap hrl W0 (HA0.out.more (by omega))).mono ?_
  rintro e w1 ⟨gm, mcap, rfl, hgm, hmc, hK1, hb1⟩
  clear hW0 hS0
  have C1 := C0.out.below hb1 C0.out.lt
  have B1 := B0.out.trans (hb1.mono (by omega))
  have hS1 : w1.cell? ⟨w.heap.size, 0, none⟩ = some (.int .u32 cn) ∧ w1.cell? ⟨w.heap.size, 1, none⟩ = some (.slice A l.length scap) ∧ w1.cell? ⟨w.heap.size, 2, none⟩ = some (.slice B es.length ecap) ∧ w1.cell? ⟨w.heap.size, 3, none⟩ = some (.int .i64 cbeh) ∧ w1.cell? ⟨w.heap.size, 4, none⟩ = some (.int .i64 croom) ∧ w1.cell? ⟨w.heap.size, 5, none⟩ = some (.int .u32 csrc) ∧ w1.cell? ⟨w.heap.size, 6, none⟩ = some (csrcs) ∧ w1.cell? ⟨w.heap.size, 7, none⟩ = some (.int .i64 ckind) ∧ w1.cell? ⟨w.heap.size, 8, none⟩ = some (.int .u32 (n : Int)) ∧ w1.cell? ⟨w.heap.size, 9, none⟩ = some (.int .u32 (a : Int)) ∧ w1.cell? ⟨w.heap.size, 10, none⟩ = some (.int .u32 (c : Int)) ∧ w1.cell? ⟨w.heap.size, 11, none⟩ = some (.int .u32 cdamp) ∧ w1.cell? ⟨w.heap.size, 12, none⟩ = some (.int .i64 crounds) ∧ w1.cell? ⟨w.heap.size, 13, none⟩ = some (.int .u64 cseed) := ⟨Row.get C1 (i := 0) rfl, Row.get C1 (i := 1) rfl, Row.get C1 (i := 2) rfl, Row.get C1 (i := 3) rfl, Row.get C1 (i := 4) rfl, Row.get C1 (i := 5) rfl, Row.get C1 (i := 6) rfl, Row.get C1 (i := 7) rfl, Row.get C1 (i := 8) rfl, Row.get C1 (i := 9) rfl, Row.get C1 (i := 10) rfl, Row.get C1 (i := 11) rfl, Row.get C1 (i := 12) rfl, Row.get C1 (i := 13) rfl⟩
  have K1 := Lib.hid hK1
  have hgm1 := hK1.lt
  have s1 := hb1.size
  have C1 := Lib.hid C1
  have B1 := Lib.hid B1
  clear hb1 hK1
  go_wp2_with fail
  refine (HW.out w1).mono ?_
  rintro e w2 ⟨gw, rfl, hgw, hrw, hb2⟩
  rw [fc99] at hrw
  have X2 : St w w.heap.size gm gw #[.int .u32 cn, .slice A l.length scap, .slice B es.length ecap, .int .i64 cbeh, .int .i64 croom, .int .u32 csrc, csrcs, .int .i64 ckind, .int .u32 (n : Int), .int .u32 (a : Int), .int .u32 (c : Int), .int .u32 cdamp, .int .i64 crounds, .int .u64 cseed] l _ w2 := ⟨C1.out.below hb2 C1.out.lt, B1.out.trans (hb2.mono B1.out.size), K1.out.below hb2 hgm1, hrw⟩
  clear hS1
  have hS2 := X2.cells
  have s2 := hb2.size
  have hgw2 := hrw.lt
  have X2 := Lib.hid X2
  clear hrw hb2
  go_upto_region 3 with fail
  go_cut [5, 6] (fun x y wx => ∃ Vb r v q VV, x = .pointer (some ⟨Vb, 0, none⟩) ∧ y = .int .i64 E ∧ CutS w wx gm gw Vb R n #[.int .u32 cn, .slice A l.length scap, .slice B es.length ecap, .int .i64 cbeh, .int .i64 croom, .int .u32 csrc, csrcs, .int .i64 ckind, .int .u32 (n : Int), .int .u32 (a : Int), .int .u32 (c : Int), .int .u32 cdamp, .int .i64 crounds, .int .u64 cseed] l E (verdictOf 0 (notesL lookI' (0, 0) l (foldA l n a c es) n)) r v q VV)
  case first =>
    go_region_held3 (fun w' => w'.cell? ⟨w.heap.size, 0, none⟩ = some (.int .u32 cn) ∧ w'.cell? ⟨w.heap.size, 1, none⟩ = some (.slice A l.length scap) ∧ w'.cell? ⟨w.heap.size, 2, none⟩ = some (.slice B es.length ecap) ∧ w'.cell? ⟨w.heap.size, 3, none⟩ = some (.int .i64 cbeh) ∧ w'.cell? ⟨w.heap.size, 4, none⟩ = some (.int .i64 croom) ∧ w'.cell? ⟨w.heap.size, 5, none⟩ = some (.int .u32 csrc) ∧ w'.cell? ⟨w.heap.size, 6, none⟩ = some (csrcs) ∧ w'.cell? ⟨w.heap.size, 7, none⟩ = some (.int .i64 ckind) ∧ w'.cell? ⟨w.heap.size, 8, none⟩ = some (.int .u32 (n : Int)) ∧ w'.cell? ⟨w.heap.size, 9, none⟩ = some (.int .u32 (a : Int)) ∧ w'.cell? ⟨w.heap.size, 10, none⟩ = some (.int .u32 (c : Int)) ∧ w'.cell? ⟨w.heap.size, 11, none⟩ = some (.int .u32 cdamp) ∧ w'.cell? ⟨w.heap.size, 12, none⟩ = some (.int .i64 crounds) ∧ w'.cell? ⟨w.heap.size, 13, none⟩ = some (.int .u64 cseed))
      (first
        | with_reducible exact P6.cells
        | with_reducible exact P5a.cells
        | with_reducible exact P5.cells
        | with_reducible exact (P4.alloc _).cells
        | with_reducible exact P4.cells
        | with_reducible exact (P3.alloc _).cells
        | with_reducible exact P3.cells
        | with_reducible exact (X2.out.alloc _).drew.cells
        | exact hS2)
      (first
        | (go_simp; go_at_call 40
           refine (HBe.out _).mono ?_
           rintro e w3 ⟨rfl, hb3⟩
           have s3 := hb3.size
           try simp only [World.size_alloc, World.size_drew] at s3
           (first | (have P3 := (X2.out.alloc _).drew.below hb3; have V3 : Row w3 w2.heap.size 79 #[.bool false, .int .u32 0, .int .i64 0] := ((Row.new w2 79 #[.bool false, .int .u32 0, .int .i64 0]).drew).below hb3 (by simp)) | (have P3 := X2.out.drew.below hb3)))
        | (go_simp; go_at_call 19
           refine (feed B es ecap bh hr h0 _ (by first | exact (HB.out.below P3.b).more P3.b.size | exact (HB.out.below (P3.alloc _).b).more (P3.alloc _).b.size)).mono ?_
           rintro e w4 ⟨b0, b1, rfl, hfa, htm, hff⟩
           have hb4 := htm.below
           have s4 := hb4.size
           try simp only [World.size_alloc] at s4
           have hff' : ∃ lo, gw < lo ∧ lo ≤ w4.heap.size ∧ FeedFrom lo w4 w4.heap.size b0 b1 es bh := ⟨_, by (try simp only [World.size_alloc]); omega, hb4.size, hff⟩
           (first | (have P4 := (P3.alloc _).below hb4; have V4 : Row w4 w3.heap.size 79 #[.bool false, .int .u32 0, .int .i64 0] := (Row.new w3 79 #[.bool false, .int .u32 0, .int .i64 0]).below hb4 (by simp)) | (have P4 := P3.below hb4; have V4 := V3.below hb4 V3.lt) | (have P4 := P3.below hb4)))
        | (go_simp; go_at_call 50
           obtain ⟨lo, hlo1, hlo2, hff⟩ := hff'
           refine (ind_all n a c hn ha hc R gw lo w4.heap.size (gm + 1) b0 b1 mcap hR5 (some ⟨gm, 0, none⟩) l es bh (List.replicate R 99) hr _ (by first | exact P4.k.lay | exact (P4.alloc _).k.lay) (by omega) (by first | exact hff | exact feed_alloc hff (Nat.le_refl _) _) hlo1 hlo2 (by simp) (List.length_replicate) (by first | exact P4.r | exact (P4.alloc _).r) (fun k _ hk => by rw [List.getElem?_replicate, if_pos hk])).mono ?_
           rintro e w5 ⟨⟨r, v, q, rfl, hno, hyes⟩, ⟨VV, hVl, r5, hVm⟩, t5⟩
           rw [HE.out] at hno hyes ⊢
           have s5 := t5.size
           try simp only [World.size_alloc] at s5
           (first | (have P5 := (P4.alloc _).turns t5 (by omega) (by omega) (by omega) r5; have V5 : Row w5 w4.heap.size 79 #[.bool false, .int .u32 0, .int .i64 0] := t5.row (Row.new w4 79 #[.bool false, .int .u32 0, .int .i64 0]) (by omega); have P6 := P5.set3 w4.heap.size (by omega) (by omega) (by omega) (by omega) r v q; have V6 := set3_row V5 r v q; have hv0 : w5.cell? ⟨w4.heap.size, 0, none⟩ = some (.bool false) := V5.get rfl; have hv1 : w5.cell? ⟨w4.heap.size, 1, none⟩ = some (.int .u32 0) := V5.get rfl; have hv2 : w5.cell? ⟨w4.heap.size, 2, none⟩ = some (.int .i64 0) := V5.get rfl; have hf0 := V5.free 0; have hf1 := V5.free 1; have hf2 := V5.free 2; have hvb : w.heap.size < w4.heap.size ∧ gm ≠ w4.heap.size ∧ gw ≠ w4.heap.size := ⟨by omega, by omega, by omega⟩) | (have P5 := P4.turns t5 (by omega) (by omega) (by omega) r5; have V5 : Row w5 w3.heap.size 79 #[.bool false, .int .u32 0, .int .i64 0] := t5.row V4 (by omega); have P6 := P5.set3 w3.heap.size (by omega) (by omega) (by omega) (by omega) r v q; have V6 := set3_row V5 r v q; have hv0 : w5.cell? ⟨w3.heap.size, 0, none⟩ = some (.bool false) := V5.get rfl; have hv1 : w5.cell? ⟨w3.heap.size, 1, none⟩ = some (.int .u32 0) := V5.get rfl; have hv2 : w5.cell? ⟨w3.heap.size, 2, none⟩ = some (.int .i64 0) := V5.get rfl; have hf0 := V5.free 0; have hf1 := V5.free 1; have hf2 := V5.free 2; have hvb : w.heap.size < w3.heap.size ∧ gm ≠ w3.heap.size ∧ gw ≠ w3.heap.size := ⟨by omega, by omega, by omega⟩) | (have P5 := P4.turns t5 (by omega) (by omega) (by omega) r5; have V5 : Row w5 w2.heap.size 79 #[.bool false, .int .u32 0, .int .i64 0] := t5.row V4 (by omega); have P6 := P5.set3 w2.heap.size (by omega) (by omega) (by omega) (by omega) r v q; have V6 := set3_row V5 r v q; have hv0 : w5.cell? ⟨w2.heap.size, 0, none⟩ = some (.bool false) := V5.get rfl; have hv1 : w5.cell? ⟨w2.heap.size, 1, none⟩ = some (.int .u32 0) := V5.get rfl; have hv2 : w5.cell? ⟨w2.heap.size, 2, none⟩ = some (.int .i64 0) := V5.get rfl; have hf0 := V5.free 0; have hf1 := V5.free 1; have hf2 := V5.free 2; have hvb : w.heap.size < w2.heap.size ∧ gm ≠ w2.heap.size ∧ gw ≠ w2.heap.size := ⟨by omega, by omega, by omega⟩) | (have P5 := P4.turns t5 (by omega) (by omega) (by omega) r5; have P5a := P5.alloc (.cells #[.bool false, .int .u32 0, .int .i64 0] 79); have P6 := P5.alloc (.cells #[.bool r, .int .u32 v, .int .i64 q] 79); have V6 := Row.new w5 79 #[.bool r, .int .u32 v, .int .i64 q]; have hvb : w.heap.size < w5.heap.size ∧ gm ≠ w5.heap.size ∧ gw ≠ w5.heap.size := ⟨by omega, by omega, by omega⟩))))
    all_goals
      go_wp2_with fail
      go_meet
      exact ⟨_, r, v, q, VV, rfl, rfl, ⟨P6, V6, hvb.1, hvb.2.1, hvb.2.2, hVl, hVm, hno, hyes⟩⟩
  case rest =>
    obtain ⟨Vb, r, v, q, VV, rfl, rfl, hcu⟩ := hcut
    clear hS2
    have hSc := hcu.st.cells
    have Xc := Lib.hid hcu
    have hwn := hwn.out
    go_upto_region 5 with fail
    go_cut [7] (fun x wx => x = .int .i64 E ∧ St w w.heap.size gm gw #[.int .u32 cn, .slice A l.length scap, .slice B es.length ecap, .int .i64 cbeh, .int .i64 croom, .int .u32 csrc, csrcs, .int .i64 ckind, .int .u32 (n : Int), .int .u32 (a : Int), .int .u32 (c : Int), .int .u32 cdamp, .int .i64 crounds, .int .u64 cseed] l (fc VV) wx ∧ Row wx Vb 79 #[.bool r, .int .u32 v, .int .i64 q])
    case first =>
      go_region_held3 (fun w' => w'.cell? ⟨w.heap.size, 0, none⟩ = some (.int .u32 cn) ∧ w'.cell? ⟨w.heap.size, 1, none⟩ = some (.slice A l.length scap) ∧ w'.cell? ⟨w.heap.size, 2, none⟩ = some (.slice B es.length ecap) ∧ w'.cell? ⟨w.heap.size, 3, none⟩ = some (.int .i64 cbeh) ∧ w'.cell? ⟨w.heap.size, 4, none⟩ = some (.int .i64 croom) ∧ w'.cell? ⟨w.heap.size, 5, none⟩ = some (.int .u32 csrc) ∧ w'.cell? ⟨w.heap.size, 6, none⟩ = some (csrcs) ∧ w'.cell? ⟨w.heap.size, 7, none⟩ = some (.int .i64 ckind) ∧ w'.cell? ⟨w.heap.size, 8, none⟩ = some (.int .u32 (n : Int)) ∧ w'.cell? ⟨w.heap.size, 9, none⟩ = some (.int .u32 (a : Int)) ∧ w'.cell? ⟨w.heap.size, 10, none⟩ = some (.int .u32 (c : Int)) ∧ w'.cell? ⟨w.heap.size, 11, none⟩ = some (.int .u32 cdamp) ∧ w'.cell? ⟨w.heap.size, 12, none⟩ = some (.int .i64 crounds) ∧ w'.cell? ⟨w.heap.size, 13, none⟩ = some (.int .u64 cseed))
        (first
          | with_reducible exact P7.cells
          | with_reducible exact P6.cells
          | exact hSc)
        (first
          | (go_simp; go_at_call 51
             refine (HOr.out _).mono ?_
             rintro e w6 ⟨rfl, hb6⟩
             have P6 := Xc.out.st.drew.below hb6
             have V6 := Xc.out.rv.drew.below hb6 Xc.out.rv.lt)
          | (go_simp; go_at_call 41
             refine (HAs.out _ ((HB.out.below P6.b).more P6.b.size)).mono ?_
             rintro e w7 ⟨rfl, hb7⟩
             have P7 := P6.below hb7
             have V7 := V6.below hb7 V6.lt))
      all_goals
        go_wp2_with fail
        go_meet
        exact ⟨rfl, P7, V7⟩
    case rest =>
      obtain ⟨rfl, P7, V7⟩ := hcut
      rename World => w7
      clear hSc
      have hS7 := P7.cells
      have X7 := Lib.hid (And.intro P7 V7)
      have hV7 := V7.lt
      have hC7 := P7.c.lt
      have hK7 := P7.k.lt
      have hG7 := P7.r.lt
      clear P7 V7
      have hVne : Vb ≠ w7.heap.size := by omega
      have hVne' : w7.heap.size ≠ Vb := by omega
      have hWne : w.heap.size ≠ w7.heap.size := by omega
      by_cases hE0 : E = 0
      · subst hE0
        obtain ⟨hO, q2, q3, q4⟩ := ask_order HE.out
        obtain ⟨g1, g2, g3, g4⟩ := isOrder_yes hO
        have hvd := Lib.hid (Xc.out.yes rfl)
        have HQ4 := Lib.hid q4
        have HRI := Lib.hid (fun W hLA hLB => refInd n a c (by omega) hO A B l es scap ecap (by omega) hr (fun x hx => q4 x hx) W hLA hLB)
        have HRC := Lib.hid (fun W hLA hLB => refCol n a c (by omega) hO A B l es scap ecap (by omega) hr (fun x hx => q4 x hx) W hLA hLB)
        clear hO q2 q4 g1 g2 g3 g4
        have P8 := X7.out.1.alloc (.cells #[.bool false, .int .u32 0, .int .i64 0] 79)
        have Y8 := X7.out.2.alloc (.cells #[.bool false, .int .u32 0, .int .i64 0] 79)
        have Z8 := Row.new w7 79 #[.bool false, .int .u32 0, .int .i64 0]
        have X8 := Lib.hid (And.intro P8 (And.intro Y8 Z8))
        have hS8 := P8.cells
        clear P8 Y8 Z8
        go_wp2_with fail
        refine (HRI.out _ ((HA.out.below X8.out.1.b).more X8.out.1.b.size) ((HB.out.below X8.out.1.b).more X8.out.1.b.size)).mono ?_
        rintro e w8 ⟨rfl, hb8⟩
        rw [sets_same, ← hvd.out]
        have hs8 := hb8.size
        simp only [World.size_alloc] at hs8
        have P9 := X8.out.1.below hb8
        have Y9 := X8.out.2.1.below hb8 X8.out.2.1.lt
        have Z9 := X8.out.2.2.below hb8 X8.out.2.2.lt
        have hz0 := Z9.get (i := 0) rfl
        have hz1 := Z9.get (i := 1) rfl
        have hz2 := Z9.get (i := 2) rfl
        have hy0 := Y9.get (i := 0) rfl
        have hy1 := Y9.get (i := 1) rfl
        have hy2 := Y9.get (i := 2) rfl
        simp only [List.getElem_toArray, List.getElem_cons_zero, List.getElem_cons_succ] at hz0 hz1 hz2 hy0 hy1 hy2
        have hf0 := Z9.free 0
        have hf1 := Z9.free 1
        have hf2 := Z9.free 2
        have P10 := P9.set3 w7.heap.size (by omega) (by omega) (by omega) (by omega) r v q
        have Z10 := set3_row Z9 r v q
        have Y10 := ((Y9.other (a := ⟨w7.heap.size, 0, none⟩) (by show Vb ≠ w7.heap.size; omega) (.bool r)).other (a := ⟨w7.heap.size, 1, none⟩) (by show Vb ≠ w7.heap.size; omega) (.int .u32 v)).other (a := ⟨w7.heap.size, 2, none⟩) (by show Vb ≠ w7.heap.size; omega) (.int .i64 q)
        have X10 := Lib.hid (And.intro P10 (And.intro Y10 Z10))
        clear P9 Y9 Z9 P10 Y10 Z10 hb8 hS8
        go_wp2_with fail
        refine (agree_ok r v q _).mono ?_
        rintro e w12 ⟨rfl, hb12⟩
        have P12 := X10.out.1.below hb12
        have Y12 := X10.out.2.1.below hb12 X10.out.2.1.lt
        have Z12 := X10.out.2.2.below hb12 X10.out.2.2.lt
        clear hb12 hz0 hz1 hz2 hy0 hy1 hy2 hf0 hf1 hf2
        have hS12 := P12.cells
        have hVl12 := Y12.lt
        have hZl12 := Z12.lt
        have hKl12 := P12.k.lt
        have hGl12 := P12.r.lt
        have X12 := Lib.hid (And.intro P12 (And.intro Y12 Z12))
        clear P12 Y12 Z12 hS7
        go_wp2_with fail
        go_region_held3 (fun w' => w'.cell? ⟨w.heap.size, 0, none⟩ = some (.int .u32 cn) ∧ w'.cell? ⟨w.heap.size, 1, none⟩ = some (.slice A l.length scap) ∧ w'.cell? ⟨w.heap.size, 2, none⟩ = some (.slice B es.length ecap) ∧ w'.cell? ⟨w.heap.size, 3, none⟩ = some (.int .i64 cbeh) ∧ w'.cell? ⟨w.heap.size, 4, none⟩ = some (.int .i64 croom) ∧ w'.cell? ⟨w.heap.size, 5, none⟩ = some (.int .u32 csrc) ∧ w'.cell? ⟨w.heap.size, 6, none⟩ = some (csrcs) ∧ w'.cell? ⟨w.heap.size, 7, none⟩ = some (.int .i64 ckind) ∧ w'.cell? ⟨w.heap.size, 8, none⟩ = some (.int .u32 (n : Int)) ∧ w'.cell? ⟨w.heap.size, 9, none⟩ = some (.int .u32 (a : Int)) ∧ w'.cell? ⟨w.heap.size, 10, none⟩ = some (.int .u32 (c : Int)) ∧ w'.cell? ⟨w.heap.size, 11, none⟩ = some (.int .u32 cdamp) ∧ w'.cell? ⟨w.heap.size, 12, none⟩ = some (.int .i64 crounds) ∧ w'.cell? ⟨w.heap.size, 13, none⟩ = some (.int .u64 cseed))
          (first
            | with_reducible exact P6.cells
            | with_reducible exact P5.cells
            | with_reducible exact P4.cells
            | with_reducible exact P3.cells
            | exact hS12)
          (first
            | (go_simp; go_at_call 40
               refine (HBe.out _).mono ?_
               rintro e w3 ⟨rfl, hb3⟩
               have s3 := hb3.size
               simp only [World.size_drew] at s3
               have P3 := X12.out.1.drew.below hb3
               have V3 := X12.out.2.1.drew.below hb3 X12.out.2.1.lt
               have Z3 := X12.out.2.2.drew.below hb3 X12.out.2.2.lt)
            | (go_simp; go_at_call 19
               refine (feed B es ecap bh hr h0 _ ((HB.out.below P3.b).more P3.b.size)).mono ?_
               rintro e w4 ⟨b0, b1, rfl, hfa, htm, hff⟩
               have hb4 := htm.below
               have s4 := hb4.size
               have hff' : ∃ lo, gw < lo ∧ lo ≤ w4.heap.size ∧ FeedFrom lo w4 w4.heap.size b0 b1 es bh := ⟨_, by omega, hb4.size, hff⟩
               have P4 := P3.below hb4
               have V4 := V3.below hb4 V3.lt
               have Z4 := Z3.below hb4 Z3.lt)
            | (go_simp; go_at_call 53
               obtain ⟨lo, hlo1, hlo2, hff⟩ := hff'
               refine (col_all n a c hn ha hc R gw lo w4.heap.size (gm + 1) b0 b1 mcap hR5 (some ⟨gm, 0, none⟩) l es bh VV hr _ P4.k.lay (by omega) hff hlo1 hlo2 (Nat.le_refl _) Xc.out.len P4.r Xc.out.mark).mono ?_
               rintro e w5 ⟨⟨r2, v2, q2, rfl, hno2, hyes2⟩, ⟨VV2, hVl2, r5, hVm2⟩, t5⟩
               rw [HE.out] at hno2 hyes2 ⊢
               have HNY := Lib.hid (And.intro hno2 hyes2)
               clear hno2 hyes2
               have P5 := P4.turns t5 (by omega) (by omega) (by omega) r5
               have V5 := t5.row V4 (Ne.symm Xc.out.nw)
               have Z5 := t5.row Z4 (by omega)
               have P6 := P5.set3 Vb (Nat.ne_of_lt Xc.out.lo) Xc.out.nm Xc.out.nw (Nat.le_of_lt Xc.out.lo) r2 v2 q2
               have V6 := set3_row V5 r2 v2 q2
               have Z6 := ((Z5.other (a := ⟨Vb, 0, none⟩) (by show w7.heap.size ≠ Vb; omega) (.bool r2)).other (a := ⟨Vb, 1, none⟩) (by show w7.heap.size ≠ Vb; omega) (.int .u32 v2)).other (a := ⟨Vb, 2, none⟩) (by show w7.heap.size ≠ Vb; omega) (.int .i64 q2)
               have hv0 : w5.cell? ⟨Vb, 0, none⟩ = some (.bool r) := V5.get rfl
               have hv1 : w5.cell? ⟨Vb, 1, none⟩ = some (.int .u32 v) := V5.get rfl
               have hv2 : w5.cell? ⟨Vb, 2, none⟩ = some (.int .i64 q) := V5.get rfl
               have hf0 := V5.free 0
               have hf1 := V5.free 1
               have hf2 := V5.free 2))
        obtain ⟨X, hX⟩ : ∃ X, ((w5.setCell ⟨Vb, 0, none⟩ (.bool r2)).setCell ⟨Vb, 1, none⟩ (.int .u32 v2)).setCell ⟨Vb, 2, none⟩ (.int .i64 q2) = X := ⟨_, rfl⟩
        have PX := hX ▸ P6
        have VX := hX ▸ V6
        have ZX := hX ▸ Z6
        rw [hX]
        have hvd2 := HNY.out.2 (by first | rfl | trivial)
        have HV2 := Lib.hid (And.intro hvd2 hVm2)
        clear hX P6 V6 Z6 P5 V5 Z5 P4 V4 Z4 P3 V3 Z3 hv0 hv1 hv2 hf0 hf1 hf2 HNY hvd2 hVm2 hVl2 r5 t5 hff hfa htm hb4 hb3 hS12
        have hVlX := VX.lt
        have hZlX := ZX.lt
        have hSX := PX.cells
        have XX := Lib.hid (And.intro PX (And.intro VX ZX))
        clear PX VX ZX
        go_wp2_with fail
        refine (HRC.out _ ((HA.out.below XX.out.1.b).more XX.out.1.b.size) ((HB.out.below XX.out.1.b).more XX.out.1.b.size)).mono ?_
        rintro e w8 ⟨rfl, hb8⟩
        rw [colours_same l n a c es _ HQ4.out, ← HV2.out.1]
        have P8 := XX.out.1.below hb8
        have V8 := XX.out.2.1.below hb8 XX.out.2.1.lt
        have Z8 := XX.out.2.2.below hb8 XX.out.2.2.lt
        have P9 := P8.set3 w7.heap.size (by omega) (by omega) (by omega) (by omega) r2 v2 q2
        have Z9 := set3_row Z8 r2 v2 q2
        have V9 := ((V8.other (a := ⟨w7.heap.size, 0, none⟩) (by show Vb ≠ w7.heap.size; omega) (.bool r2)).other (a := ⟨w7.heap.size, 1, none⟩) (by show Vb ≠ w7.heap.size; omega) (.int .u32 v2)).other (a := ⟨w7.heap.size, 2, none⟩) (by show Vb ≠ w7.heap.size; omega) (.int .i64 q2)
        have hz0 := Z8.get (i := 0) rfl
        have hz1 := Z8.get (i := 1) rfl
        have hz2 := Z8.get (i := 2) rfl
        have hy0 := V8.get (i := 0) rfl
        have hy1 := V8.get (i := 1) rfl
        have hy2 := V8.get (i := 2) rfl
        simp only [List.getElem_toArray, List.getElem_cons_zero, List.getElem_cons_succ] at hz0 hz1 hz2 hy0 hy1 hy2
        have hf0 := Z8.free 0
        have hf1 := Z8.free 1
        have hf2 := Z8.free 2
        have hs8 := hb8.size
        have X9 := Lib.hid P9
        clear P8 V8 Z8 P9 Z9 V9 hb8 hSX
        go_wp2_with fail
        refine (agree_ok r2 v2 q2 _).mono ?_
        rintro e w12 ⟨rfl, hb12⟩
        have P12 := X9.out.below hb12
        have hS12 := P12.cells
        have P12 := Lib.hid P12
        clear hy0 hy1 hy2 hz0 hz1 hz2
        go_wp2_with fail
        refine (kept gm mcap scap A l hmc hrl w12 P12.out.k ((HA.out.below P12.out.b).more P12.out.b.size)).mono ?_
        rintro e w13 ⟨rfl, hb13⟩
        have P13 := P12.out.below hb13
        have hS13 := P13.cells
        have P13 := Lib.hid P13
        clear hS12
        go_wp2_with fail
        refine (spareS gw R n R VV2 HV2.out.2 hn hR5 w13 P13.out.r).mono ?_
        rintro e w14 ⟨rfl, hb14⟩
        have P14 := Lib.hid (P13.out.below hb14)
        clear hS13
        go_wp2
        go_ret
        exact ⟨rfl, P14.out.b⟩
      · have hEb : (E == 0) = false := by simpa using hE0
        have hE0' := Lib.hid hE0
        obtain ⟨rfl, rfl, rfl⟩ : r = false ∧ v = 0 ∧ q = 0 := by simpa using Xc.out.no hE0
        clear hE0
        have P8 := X7.out.1.alloc (.cells #[.bool false, .int .u32 0, .int .i64 0] 79)
        have Y8 := X7.out.2.alloc (.cells #[.bool false, .int .u32 0, .int .i64 0] 79)
        have Z8 := Row.new w7 79 #[.bool false, .int .u32 0, .int .i64 0]
        obtain ⟨W8, hW8⟩ : ∃ W8, w7.alloc (.cells #[.bool false, .int .u32 0, .int .i64 0] 79) = W8 := ⟨_, rfl⟩
        rw [hW8] at P8 Y8 Z8
        have hz0 := Z8.get (i := 0) rfl
        have hz1 := Z8.get (i := 1) rfl
        have hz2 := Z8.get (i := 2) rfl
        have hy0 := Y8.get (i := 0) rfl
        have hy1 := Y8.get (i := 1) rfl
        have hy2 := Y8.get (i := 2) rfl
        simp only [List.getElem_toArray, List.getElem_cons_zero, List.getElem_cons_succ] at hz0 hz1 hz2 hy0 hy1 hy2
        have X8 := Lib.hid (And.intro P8 (And.intro Y8 Z8))
        clear P8 Y8 Z8
        go_wp2_with fail
        refine (agree_no E hE0'.out _).mono ?_
        rintro e w12 ⟨rfl, hb12⟩
        have P12 := X8.out.1.below hb12
        have Y12 := X8.out.2.1.below hb12 X8.out.2.1.lt
        have Z12 := X8.out.2.2.below hb12 X8.out.2.2.lt
        have hs12 : w7.heap.size < w12.heap.size := Z12.lt
        clear hb12 hz0 hz1 hz2 hy0 hy1 hy2 hW8
        have hS12 := P12.cells
        have hVl12 := Y12.lt
        have hZl12 := Z12.lt
        have hKl12 := P12.k.lt
        have hGl12 := P12.r.lt
        have X12 := Lib.hid (And.intro P12 (And.intro Y12 Z12))
        clear P12 Y12 Z12 hS7
        go_wp2_with fail
        go_region_held3 (fun w' => w'.cell? ⟨w.heap.size, 0, none⟩ = some (.int .u32 cn) ∧ w'.cell? ⟨w.heap.size, 1, none⟩ = some (.slice A l.length scap) ∧ w'.cell? ⟨w.heap.size, 2, none⟩ = some (.slice B es.length ecap) ∧ w'.cell? ⟨w.heap.size, 3, none⟩ = some (.int .i64 cbeh) ∧ w'.cell? ⟨w.heap.size, 4, none⟩ = some (.int .i64 croom) ∧ w'.cell? ⟨w.heap.size, 5, none⟩ = some (.int .u32 csrc) ∧ w'.cell? ⟨w.heap.size, 6, none⟩ = some (csrcs) ∧ w'.cell? ⟨w.heap.size, 7, none⟩ = some (.int .i64 ckind) ∧ w'.cell? ⟨w.heap.size, 8, none⟩ = some (.int .u32 (n : Int)) ∧ w'.cell? ⟨w.heap.size, 9, none⟩ = some (.int .u32 (a : Int)) ∧ w'.cell? ⟨w.heap.size, 10, none⟩ = some (.int .u32 (c : Int)) ∧ w'.cell? ⟨w.heap.size, 11, none⟩ = some (.int .u32 cdamp) ∧ w'.cell? ⟨w.heap.size, 12, none⟩ = some (.int .i64 crounds) ∧ w'.cell? ⟨w.heap.size, 13, none⟩ = some (.int .u64 cseed))
          (first
            | with_reducible exact P6.cells
            | with_reducible exact P5.cells
            | with_reducible exact P4.cells
            | with_reducible exact P3.cells
            | exact hS12)
          (first
            | (go_simp; go_at_call 40
               refine (HBe.out _).mono ?_
               rintro e w3 ⟨rfl, hb3⟩
               have s3 := hb3.size
               simp only [World.size_drew] at s3
               have P3 := X12.out.1.drew.below hb3
               have V3 := X12.out.2.1.drew.below hb3 X12.out.2.1.lt
               have Z3 := X12.out.2.2.drew.below hb3 X12.out.2.2.lt)
            | (go_simp; go_at_call 19
               refine (feed B es ecap bh hr h0 _ ((HB.out.below P3.b).more P3.b.size)).mono ?_
               rintro e w4 ⟨b0, b1, rfl, hfa, htm, hff⟩
               have hb4 := htm.below
               have s4 := hb4.size
               have hff' : ∃ lo, gw < lo ∧ lo ≤ w4.heap.size ∧ FeedFrom lo w4 w4.heap.size b0 b1 es bh := ⟨_, by omega, hb4.size, hff⟩
               have P4 := P3.below hb4
               have V4 := V3.below hb4 V3.lt
               have Z4 := Z3.below hb4 Z3.lt)
            | (go_simp; go_at_call 53
               obtain ⟨lo, hlo1, hlo2, hff⟩ := hff'
               refine (col_all n a c hn ha hc R gw lo w4.heap.size (gm + 1) b0 b1 mcap hR5 (some ⟨gm, 0, none⟩) l es bh VV hr _ P4.k.lay (by omega) hff hlo1 hlo2 (Nat.le_refl _) Xc.out.len P4.r Xc.out.mark).mono ?_
               rintro e w5 ⟨⟨r2, v2, q2, rfl, hno2, hyes2⟩, ⟨VV2, hVl2, r5, hVm2⟩, t5⟩
               rw [HE.out] at hno2 hyes2 ⊢
               have HNY := Lib.hid (And.intro hno2 hyes2)
               clear hno2 hyes2
               have P5 := P4.turns t5 (by omega) (by omega) (by omega) r5
               have V5 := t5.row V4 (Ne.symm Xc.out.nw)
               have Z5 := t5.row Z4 (by omega)
               have P6 := P5.set3 Vb (Nat.ne_of_lt Xc.out.lo) Xc.out.nm Xc.out.nw (Nat.le_of_lt Xc.out.lo) r2 v2 q2
               have V6 := set3_row V5 r2 v2 q2
               have Z6 := ((Z5.other (a := ⟨Vb, 0, none⟩) (by show w7.heap.size ≠ Vb; omega) (.bool r2)).other (a := ⟨Vb, 1, none⟩) (by show w7.heap.size ≠ Vb; omega) (.int .u32 v2)).other (a := ⟨Vb, 2, none⟩) (by show w7.heap.size ≠ Vb; omega) (.int .i64 q2)
               have hv0 : w5.cell? ⟨Vb, 0, none⟩ = some (.bool false) := V5.get rfl
               have hv1 : w5.cell? ⟨Vb, 1, none⟩ = some (.int .u32 0) := V5.get rfl
               have hv2 : w5.cell? ⟨Vb, 2, none⟩ = some (.int .i64 0) := V5.get rfl
               have hf0 := V5.free 0
               have hf1 := V5.free 1
               have hf2 := V5.free 2))
        obtain ⟨X, hX⟩ : ∃ X, ((w5.setCell ⟨Vb, 0, none⟩ (.bool r2)).setCell ⟨Vb, 1, none⟩ (.int .u32 v2)).setCell ⟨Vb, 2, none⟩ (.int .i64 q2) = X := ⟨_, rfl⟩
        have PX := hX ▸ P6
        have VX := hX ▸ V6
        have ZX := hX ▸ Z6
        rw [hX]
        have hvd2 := HNY.out.1 hE0'.out
        have HV2 := Lib.hid (And.intro hvd2 hVm2)
        clear hX P6 V6 Z6 P5 V5 Z5 P4 V4 Z4 P3 V3 Z3 hv0 hv1 hv2 hf0 hf1 hf2 HNY hvd2 hVm2 hVl2 r5 t5 hff hfa htm hb4 hb3 hS12
        have hVlX := VX.lt
        have hZlX := ZX.lt
        have hy0 := VX.get (i := 0) rfl
        have hy1 := VX.get (i := 1) rfl
        have hy2 := VX.get (i := 2) rfl
        have hz0 := ZX.get (i := 0) rfl
        have hz1 := ZX.get (i := 1) rfl
        have hz2 := ZX.get (i := 2) rfl
        simp only [List.getElem_toArray, List.getElem_cons_zero, List.getElem_cons_succ] at hy0 hy1 hy2 hz0 hz1 hz2
        obtain ⟨rfl, rfl, rfl⟩ : r2 = false ∧ v2 = 0 ∧ q2 = 0 := by simpa using HV2.out.1
        have X9 := Lib.hid PX
        clear PX VX ZX
        go_wp2_with fail
        refine (agree_no E hE0'.out _).mono ?_
        rintro e w12 ⟨rfl, hb12⟩
        have P12 := X9.out.below hb12
        have hS12 := P12.cells
        have P12 := Lib.hid P12
        clear hy0 hy1 hy2 hz0 hz1 hz2
        go_wp2_with fail
        refine (kept gm mcap scap A l hmc hrl w12 P12.out.k ((HA.out.below P12.out.b).more P12.out.b.size)).mono ?_
        rintro e w13 ⟨rfl, hb13⟩
        have P13 := P12.out.below hb13
        have hS13 := P13.cells
        have P13 := Lib.hid P13
        clear hS12
        go_wp2_with fail
        refine (spareS gw R n R VV2 HV2.out.2 hn hR5 w13 P13.out.r).mono ?_
        rintro e w14 ⟨rfl, hb14⟩
        have P14 := Lib.hid (P13.out.below hb14)
        clear hS13
        go_wp2
        go_ret
        exact ⟨rfl, P14.out.b⟩
theorem own : ownKnob Try.prog.godebug = none := by kernel_rfl
set_option maxRecDepth 100000 in
theorem lifted (os : Os) (started : os.Started) (H : Type) (enc : TypeId × Value → H) :
    ReturnsInHanded {} Try.checked os 12 .any (Rows.auditSetsSpec.pre6 enc Try.prog Try.f12 Rows.auditSetsRow.domain false) (Rows.auditSetsSpec.post enc Try.prog Try.f12 false true false false) := by
  refine returnsInHanded_of_change_sized (C := Try.checked) own started (by kernel_rfl) Try.func12
    (ChangeSpec.witness6 (enc := enc) (C := Try.checked) false ⟨#[], #[.agg #[.int .u32 0, .slice none 0 0, .slice none 0 0, .int .i64 0, .int .i64 0, .int .u32 0, .slice none 0 0, .int .i64 0, .int .u32 0, .int .u32 0, .int .u32 0, .int .u32 0, .int .i64 0, .int .u64 0]], []⟩ 8 (by kernel_rfl) (by kernel_rfl) (by kernel_rfl) (by kernel_rfl)) ?_
  intro W base args ds gs before hval0 hW hcnd hsz0 _
  have hsz : (DataW.weightsEach Try.prog (Try.f12.params.toList ++ Rows.auditSetsSpec.plain.varTypes Try.prog) (ds ++ gs)).all (· ≤ reachBytes) = true := hsz0
  have hval : ∀ (j : Nat) t v, Try.f12.params[j]? = some t → args[j]? = some v → Value.okWide Try.prog W .any base t v := hval0
  have hW' := hW
  obtain ⟨p, q, hA0, hV, rfl, hfz, hnd⟩ := hW
  have hA : DataW.TrodAll enc Try.prog W 0 (fun _ => true) true Try.f12.params.toList args.toList ds p := hA0
  rw [Try.params12] at hA hval hsz
  obtain ⟨v0, vs0, d0, ds0, p0, q0, hargs, rfl, rfl, h0, r0⟩ := trodAll_cons hA
  obtain ⟨rfl, rfl, rfl⟩ := trodAll_nil r0
  obtain rfl : args = #[v0] := by cases args; simp_all
  obtain ⟨rfl, rfl⟩ := trodVars_none hV
  have hlt : ∀ x ∈ p0, x.block < W.heap.size := fun x hx => hW'.lt x (by simpa using hx)
  have k0 := h0
  obtain ⟨fu, hfu⟩ := h0
  obtain ⟨n, beh, room, src, kind, ra, rb, rc, damp, rounds, seed, A, B, C, l, es, ss, scap, ecap, fcap, parts, d1, d2, d6, hcs, hn, hsrc, hkind, ⟨hra, hrb, hrc⟩, hA2, hA3, hlA, hB2, hB3, hlB, hC2, hC3, hlC, hx, hp1, hp2, hp6, hs1, hs2, hs6⟩ := Case.open_case2 hfu
  obtain ⟨cs', rfl, -⟩ := okWide_struct Try.underlying74 (hval 0 74 v0 rfl rfl)
  obtain rfl := Case.arr_of hcs
  obtain rfl : d0 = .agg parts := hx
  obtain ⟨z1, z2⟩ := Case.case_sizes hsz hp1 hp2 hs1 hs2
  obtain ⟨ra, rfl⟩ := Int.eq_ofNat_of_zero_le hra.1
  obtain ⟨rb, rfl⟩ := Int.eq_ofNat_of_zero_le hrb.1
  obtain ⟨rc, rfl⟩ := Int.eq_ofNat_of_zero_le hrc.1
  refine (walk _ _ _ _ _ _ _ _ _ _ _ _ (by omega) (by omega) (by omega) _ _ _ _ _ _ (by omega) (by omega) hB2 W hlA hlB).mono fun e W' ⟨he, bel⟩ => ?_
  subst he
  exact ⟨_, rfl, _, _, _, [], _, [], hW', trodAll_mk1 (shut_bool Try.underlying4 _), (trodAll_cons_mk (Below.trod (by kernel_rfl) (by kernel_rfl) (of_decide_eq_true (by kernel_rfl)) k0 bel (fun x hx => hlt x (by simp [hx]))) trodAll_mk0), rfl, bel.frame _, fun h => by cases h⟩
theorem over : Rows.auditSetsRow.holds Try.pinned (OpenSpec.ofChange Rows.auditSetsSpec) :=
  OpenClaim.holds_of_wide 12 Try.f12 rfl rfl rfl rfl rfl rfl rfl ⟨rfl, rfl, rfl, rfl, rfl⟩ rfl rfl rfl rfl rfl (by kernel_rfl) Try.func12 (by kernel_rfl)
    (of_decide_eq_true (by kernel_rfl)) (by unfold Func.isWrapper; first | (rw [if_pos (by decide +kernel)]; kernel_rfl) | (rw [if_neg (by decide +kernel)]; exact ⟨rfl, rfl⟩))
    (fun os started H enc _ => lifted os started H enc)
theorem proved : Rows.AuditSetsSaid := over
#print axioms proved
end Go.Proofs.Ytepljdnhnnpdmaa.auditSets
