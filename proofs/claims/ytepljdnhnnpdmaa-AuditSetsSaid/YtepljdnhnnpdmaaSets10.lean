/-
  The document's audit of colours, walked. No condition.
-/
import Derived.Test.YtepljdnhnnpdmaaSets8
import Derived.Test.YtepljdnhnnpdmaaSets9
set_option linter.unusedVariables false
set_option linter.unusedSimpArgs false
namespace Go.Proofs.Ytepljdnhnnpdmaa.Sets
open Go.RowKit Go.Shelf K Feed Desk Forest Case Rank Labels Cores CoreNum Faults

def RelCA (l : List S8) (n a c Bo Br : Nat) (es : List E3) (W : World) (i : Value) (wr : World) : Prop :=
  ∃ j : Nat, j ≤ es.length ∧ i = .int .i64 j ∧ FRow wr Bo (foldS l n a c (es.take j)) [] ∧ RRow wr Br (rulesE l n a c (es.take j)) ∧ Turns (fun k => k = Bo ∨ k = Br) W wr
def RelCB (l : List S8) (n Br : Nat) (R0 : List Int) (F : List Nat) (W : World) (i : Value) (wr : World) : Prop :=
  ∃ j : Nat, j ≤ n ∧ i = .int .i64 j ∧ RRow wr Br (rulesC R0 l F j) ∧ Turns (fun k => k = Br) W wr
theorem foldS_take (l : List S8) (n a c : Nat) (es : List E3) {j : Nat} {x : E3} (hx : es[j]? = some x) : foldS l n a c (es.take (j + 1)) = stepS l n a c (foldS l n a c (es.take j)) x ∧ rulesE l n a c (es.take (j + 1)) = ruleE l n a c (rulesE l n a c (es.take j)) x := by
  obtain ⟨hj', e⟩ := List.getElem?_eq_some_iff.1 hx
  rw [List.take_succ_eq_append_getElem hj', foldS_snoc, rulesE_snoc, e]
  exact ⟨rfl, rfl⟩
theorem ruleE_nat (l : List S8) (n a c : Nat) (R : List Int) (x : E3) {s d : Nat} (hs : x.s = s) (hd : x.d = d) :
    ruleE l n a c R x = if s ≠ d then noteR R (ordD n a c s d) 2 ((l.getD (ordS n a c s d) zero8).at 0 == (l.getD (ordD n a c s d) zero8).at 0) else R := by
  unfold ruleE edgeIs
  rw [hs, hd, Int.toNat_natCast, Int.toNat_natCast]
  simp only [ne_eq, Int.natCast_inj]
theorem rcol_ver {tmps : Array Value} {W : World} {V : Nat} {r : Bool} {v q : Int} (h6 : tmps[6]? = some (.pointer (some ⟨V, 0, none⟩))) (hR : Row W V 79 #[.bool r, .int .u32 v, .int .i64 q]) :
    (results Try.f54 tmps).run Try.prog W = .ok (.agg #[.bool r, .int .u32 v, .int .i64 q]) W := by
  have c0 := hR.get (i := 0) rfl
  have c1 := hR.get (i := 1) rfl
  have c2 := hR.get (i := 2) rfl
  simp only [List.getElem_toArray, List.getElem_cons_zero, List.getElem_cons_succ] at c0 c1 c2
  simp [results, Try.f54, Try.results54, go_sem, h6, c0, c1, c2]
/-- The cells of a world that a call which turns one block alone leaves. -/
theorem turns_cell {B : Nat} {X Y : World} (t : Turns (fun k => k = B) X Y) {b o : Nat} {v : Value} (hb : b ≠ B) (h : X.cell? ⟨b, o, none⟩ = some v) : Y.cell? ⟨b, o, none⟩ = some v := by
  have hx := block_lt_of_cell h
  unfold World.cell? at h ⊢
  simp only at h ⊢
  rw [t.block b hx hb]
  exact h
set_option maxRecDepth 100000 in
set_option maxHeartbeats 4000000 in
theorem refCol (n a c : Nat) (hn5 : n ≤ 5000) (hO : isOrder n a c = 0) (A B : Option Addr) (l : List S8) (es : List E3) (scap ecap : Nat) (hl : l.length = n) (hr : es.length * 12 ≤ 140737488351232) (hgood : ∀ x ∈ es, x.s < n ∧ x.d < n) (w : World)
    (hA : Lay w w.heap.size A (svs l)) (hB : Lay w w.heap.size B (evs es)) :
    Calls Try.prog 54 #[.agg #[.int .u32 n, .int .u32 a, .int .u32 c], .slice B es.length ecap, .slice A l.length scap] w (RefAt w (rulesC (rulesE l n a c es) l (foldS l n a c es) n)) := by
  obtain ⟨m1, m2, m3, m4⟩ := isOrder_yes hO
  obtain ⟨i1, hi1, hy0, hy1, hy2⟩ := info_parts info64
  have hmb := fun W => make_one (P := Try.prog) W .u32 76 53 i1 (.int .u64 0) rfl Try.underlying76 hi1 hy0 hy1 n (by rw [hy2]; omega) (by omega)
  have hbg := Lib.hid (fun W => Faults.begin n hn5 W)
  have hpl := Lib.hid (fun v (hv : v < n) W => place18 n a c v hO hv W)
  have hij := Lib.hid (fun s d (hs : s < n) (hd : d < n) => pl_inj (n := n) (a := a) (c := c) hO hs hd)
  have HA := Lib.hid hA
  have HB := Lib.hid hB
  have HG := Lib.hid hgood
  have R0 := Lib.hid ((Row.new w 72 #[.int .u32 n, .int .u32 a, .int .u32 c]).alloc (.cells #[.bool false, .int .u32 0, .int .i64 0] 79))
  have R6 := Lib.hid (Row.at (Row.new (w.alloc (.cells #[.int .u32 n, .int .u32 a, .int .u32 c] 72)) 79 #[.bool false, .int .u32 0, .int .i64 0]) (b' := w.heap.size + 1) (by simp))
  have B0 := Lib.hid (((Below.refl w.heap.size w).alloc (Nat.le_refl _) (.cells #[.int .u32 n, .int .u32 a, .int .u32 c] 72)).alloc (by simp) (.cells #[.bool false, .int .u32 0, .int .i64 0] 79))
  clear hA hB hgood hO
  go_enter Try.func54, Try.ntmps54
  go_wp2_with fail
  refine (hbg.out _).mono ?_
  rintro e w1 ⟨Br, rfl, hBr, hRR, hb1⟩
  have s1 := hb1.size
  simp only [World.size_alloc] at s1 hBr
  have R01 := R0.out.below hb1 (by simp only [World.size_alloc]; omega)
  have R61 := R6.out.below hb1 (by simp only [World.size_alloc]; omega)
  have B1 := B0.out.trans (hb1.mono (by simp only [World.size_alloc]; omega))
  have hBl := Row.lt hRR
  obtain ⟨W2, hW2⟩ : ∃ W2, (w1.alloc (.cells #[.slice (some ⟨Br, 0, none⟩) n n] 126)).alloc (.cells (List.replicate n (Value.int .u64 0)).toArray 53) = W2 := ⟨_, rfl⟩
  obtain ⟨Bf, hBf⟩ : ∃ Bf, w1.heap.size = Bf := ⟨_, rfl⟩
  have R02 := (R01.alloc (.cells #[.slice (some ⟨Br, 0, none⟩) n n] 126)).alloc (.cells (List.replicate n (Value.int .u64 0)).toArray 53)
  have R62 := (R61.alloc (.cells #[.slice (some ⟨Br, 0, none⟩) n n] 126)).alloc (.cells (List.replicate n (Value.int .u64 0)).toArray 53)
  have RR2 : RRow ((w1.alloc (.cells #[.slice (some ⟨Br, 0, none⟩) n n] 126)).alloc (.cells (List.replicate n (Value.int .u64 0)).toArray 53)) Br (List.replicate n 0) := Row.alloc (Row.alloc hRR (.cells #[.slice (some ⟨Br, 0, none⟩) n n] 126)) (.cells (List.replicate n (Value.int .u64 0)).toArray 53)
  have RF2 := ((Row.new w1 126 #[.slice (some ⟨Br, 0, none⟩) n n]).at hBf).alloc (.cells (List.replicate n (Value.int .u64 0)).toArray 53)
  have RG2 : FRow ((w1.alloc (.cells #[.slice (some ⟨Br, 0, none⟩) n n] 126)).alloc (.cells (List.replicate n (Value.int .u64 0)).toArray 53)) (Bf + 1) (List.replicate n 0) [] := by
    have := Row.at (Row.new (w1.alloc (.cells #[.slice (some ⟨Br, 0, none⟩) n n] 126)) 53 (List.replicate n (Value.int .u64 0)).toArray) (b' := Bf + 1) (by simp [hBf])
    simpa [FRow, fc] using this
  have B2 := (B1.alloc (by omega) (.cells #[.slice (some ⟨Br, 0, none⟩) n n] 126)).alloc (by simp only [World.size_alloc]; omega) (.cells (List.replicate n (Value.int .u64 0)).toArray 53)
  have S2 : W2.heap.size = Bf + 2 := by rw [← hW2]; simp [hBf]
  rw [hW2] at R02 R62 RR2 RF2 RG2 B2
  have c0 := R01.get (i := 0) rfl
  simp only [List.getElem_toArray, List.getElem_cons_zero] at c0
  have hs1 : w.heap.size + 1 < Bf := by omega
  have hlt1 : w.heap.size < w1.heap.size := by omega
  have hBB : Br < Bf := by omega
  have H2 := Lib.hid (And.intro R02 (And.intro R62 (And.intro RR2 (And.intro RF2 (And.intro RG2 B2)))))
  have HE := Lib.hid (And.intro hW2 (And.intro hBf S2))
  clear R01 R61 B1 R02 R62 RR2 RF2 RG2 B2 hRR hb1 S2 hW2 hBf s1
  go_wp2
  obtain ⟨hW2, hBf, S2⟩ := HE.out
  rw [hBf]
  have HW2 := Lib.hid hW2
  clear hW2 hBf HE
  go_loopw [9] (fun i wr => RelCA l n a c (Bf + 1) Br es W2 i wr) (fun i _ => es.length - (intOf i).toNat)
  case atStart =>
    have hW2 := HW2.out
    simp only [List.toArray_replicate] at hW2
    rw [hW2]
    exact ⟨0, Nat.zero_le _, rfl, H2.out.2.2.2.2.1, H2.out.2.2.1, Turns.refl _ _⟩
  case round =>
    obtain ⟨j, hj, rfl, hFG, hRR, hT⟩ := hrel
    rename World => w3
    obtain ⟨R02, R62, RR2, RF2, RG2, B2⟩ := H2.out
    have R03 := hT.row R02 (by omega)
    have RF3 := hT.row RF2 (by omega)
    have B3 := B2.trans (hT.below (n := w.heap.size) (by omega) (fun k h => by omega))
    have S3 := hT.size
    rcases Nat.lt_or_ge j es.length with h6 | h6
    · obtain ⟨x, hx⟩ : ∃ x, es[j]? = some x := ⟨_, List.getElem?_eq_getElem h6⟩
      obtain ⟨hstep, hstepR⟩ := foldS_take l n a c es hx
      obtain ⟨F, hFe⟩ : ∃ F, foldS l n a c (es.take j) = F := ⟨_, rfl⟩
      obtain ⟨R, hRe⟩ : ∃ R, rulesE l n a c (es.take j) = R := ⟨_, rfl⟩
      have hFl : F.length = n := by rw [← hFe]; exact foldS_length l n a c _
      have hFb : ∀ v, F.getD v 0 < 18446744073709551616 := by rw [← hFe]; exact foldS_lt l n a c _
      have hRl : R.length = n := by rw [← hRe]; exact rulesE_length l n a c _
      rw [hFe] at hFG hstep
      rw [hRe] at hRR hstepR
      have hxg := HG.out x (List.mem_of_getElem? hx)
      obtain ⟨b, off, rfl, hBb, e0, e1, -⟩ := (HB.out.below B3).edge hx
      obtain ⟨s, hs⟩ : ∃ s : Nat, x.s = s := ⟨x.s.toNat, by have := x.sb; omega⟩
      obtain ⟨d, hd⟩ : ∃ d : Nat, x.d = d := ⟨x.d.toNat, by have := x.db; omega⟩
      rw [stepS_nat l n a c F x hs hd] at hstep
      rw [ruleE_nat l n a c R x hs hd] at hstepR
      rw [hs, hd] at hxg
      rw [hs] at e0
      rw [hd] at e1
      have hsn : s < n := by omega
      have hdn : d < n := by omega
      have hkb : decide ((j : Int) < (es.length : Int)) = true := decide_eq_true (by omega)
      by_cases h1 : s = d
      · rw [if_neg (fun h => h.1 h1)] at hstep
        rw [if_neg (fun h => h h1)] at hstepR
        have d1 : ((s : Int) == (d : Int)) = true := by simp [h1]
        have HM := Lib.hid (And.intro (And.intro hstep hstepR) (And.intro hFG (And.intro hRR hT)))
        clear h1 hstep hstepR hFG hRR hT hFe hRe hs hd hx R02 R62 RR2 RF2 RG2 B2 R03 RF3 B3 hFb
        go_wp2
        go_roundw
        case rel => exact ⟨j + 1, by omega, by go_num, by rw [HM.out.1.1]; exact HM.out.2.1, by rw [HM.out.1.2]; exact HM.out.2.2.1, HM.out.2.2.2⟩
        case measure => simp [intOf]; omega
      have d1 : ((s : Int) == (d : Int)) = false := by simp; omega
      rw [if_pos h1] at hstepR
      have hA3 := HA.out.below B3
      have q0 := R03.get (i := 0) rfl
      have q1 := R03.get (i := 1) rfl
      have q2 := R03.get (i := 2) rfl
      simp only [List.getElem_toArray, List.getElem_cons_zero, List.getElem_cons_succ] at q0 q1 q2
      have p1 := Lib.hid (hpl.out s hsn)
      have p2 := Lib.hid (hpl.out d hdn)
      have hne := hij.out s d hsn hdn
      have HO1 := Lib.hid (show ordS n a c s d = if pl n a c s < pl n a c d then s else d from rfl)
      have HO2 := Lib.hid (show ordD n a c s d = if pl n a c s < pl n a c d then d else s from rfl)
      obtain ⟨ps, hps⟩ : ∃ ps, pl n a c s = ps := ⟨_, rfl⟩
      obtain ⟨pd, hpd⟩ : ∃ pd, pl n a c d = pd := ⟨_, rfl⟩
      rw [hps, hpd] at hne HO1 HO2
      rw [hps] at p1
      rw [hpd] at p2
      have hpn : ps ≠ pd := fun e => h1 (hne.1 e)
      have hR0l := R03.lt
      have HC := Lib.hid (fun w' (h : Below w3.heap.size w3 w') => (show w'.cell? ⟨w.heap.size, 0, none⟩ = some (.int .u32 n) ∧ w'.cell? ⟨w.heap.size, 1, none⟩ = some (.int .u32 a) ∧ w'.cell? ⟨w.heap.size, 2, none⟩ = some (.int .u32 c) from
        ⟨(R03.below h hR0l).get (i := 0) rfl, (R03.below h hR0l).get (i := 1) rfl, (R03.below h hR0l).get (i := 2) rfl⟩))
      have HM := Lib.hid (And.intro hstep (And.intro hstepR (And.intro hFG (And.intro hRR (And.intro RF3 (And.intro hT (And.intro hA3 B3)))))))
      have HFb := Lib.hid hFb
      have HBE := Lib.hid (fun w' (h : Below w3.heap.size w3 w') => (show w'.cell? ⟨b, off + j * 3, none⟩ = some (.int .u32 s) ∧ w'.cell? ⟨b, off + j * 3 + 1, none⟩ = some (.int .u32 d) from
        ⟨(h.cell (p := ⟨b, off + j * 3, none⟩) (by show b < w3.heap.size; omega)).trans e0, (h.cell (p := ⟨b, off + j * 3 + 1, none⟩) (by show b < w3.heap.size; omega)).trans e1⟩))
      clear hne hps hpd hstep hstepR hFG hRR hT hFe hRe hs hd hx R02 R62 RR2 RF2 RG2 B2 R03 RF3 B3 hA3 hFb
      go_wp2
      refine K.region_quiet (C := fun w' => Below w3.heap.size w3 w') (by kernel_rfl) (by kernel_rfl) (K.below_draw w3) ?_
      iterate 7 (first
        | ((with_reducible refine wpQuiet_step (fun KK hKK => ?_))
           first
             | ((with_reducible refine K.quiet_else ?_ (K.Puts.mk' _) ?_)
                (first | rfl | (simp [Region.wanted, yielded]; done))
                (with_reducible refine hKK _ ?_))
             | ((with_reducible refine K.quiet_if ?_ ?_)
                (first | rfl | (simp [Region.wanted, yielded]; done))
                first
                  | (apply K.quiet_val
                     · intro w' hw'; obtain ⟨k0, k1, k2⟩ := HC.out w' hw'; go_simp; (try go_ints); exact K.Gives.mk' _ _
                     · go_simp; exact K.Puts.mk' _)
                  | (apply K.quiet_call
                     · intro w' hw'; obtain ⟨k0, k1, k2⟩ := HC.out w' hw'; go_simp; (try go_ints); exact K.Enters.mk' _ _ _
                     · intro w' hw'; obtain ⟨k0, k1, k2⟩ := HC.out w' hw'; first
                       | with_reducible exact K.calls_below hw' hw'.size (p1.out _)
                       | with_reducible exact K.calls_below hw' hw'.size (p2.out _)
                       | exact K.calls_below hw' hw'.size (p1.out _)
                       | exact K.calls_below hw' hw'.size (p2.out _)
                     · go_simp; exact K.Puts.mk' _)
                (with_reducible refine hKK _ ?_))
           clear hKK KK)
        | skip)
      refine wpQuiet_nil ?_
      intro w4 hb4
      obtain ⟨hstep, hstepR, hFG, hRR, RF3, hT, hA3, B3⟩ := HM.out
      have hFG4 : FRow w4 (Bf + 1) F [] := Row.below hFG hb4 (Row.lt hFG)
      have hRR4 : RRow w4 Br R := Row.below hRR hb4 (Row.lt hRR)
      have RF4 := RF3.below hb4 RF3.lt
      have hT4 := hT.trans (Turns.of_below hb4 (S := fun k => k = Bf + 1 ∨ k = Br))
      have hA4 := hA3.below (hb4.mono (by have := B3.size; omega))
      obtain ⟨e0', e1'⟩ := HBE.out w4 hb4
      have hoo : (ordS n a c s d = if ps < pd then s else d) ∧ (ordD n a c s d = if ps < pd then d else s) := ⟨HO1.out, HO2.out⟩
      obtain ⟨u, hu⟩ : ∃ u, ordS n a c s d = u := ⟨_, rfl⟩
      obtain ⟨v, hv⟩ : ∃ v, ordD n a c s d = v := ⟨_, rfl⟩
      have hun : u < n := hu ▸ ordS_lt hsn hdn
      have hvn : v < n := hv ▸ ordD_lt hsn hdn
      rw [hu, hv] at hoo hstep
      rw [hu, hv] at hstepR
      obtain ⟨b2, off2, rfl, hb2, hcs⟩ := lay_at hA4 (k := u) (by omega)
      obtain ⟨b3, off3, hbe, -, hcs'⟩ := lay_at hA4 (k := v) (by omega)
      cases hbe
      have cu := hcs 0 (by omega)
      have cv := hcs' 0 (by omega)
      rw [Nat.add_zero] at cu cv
      obtain ⟨z, hz⟩ : ∃ z, (l.getD u zero8).at 0 = z := ⟨_, rfl⟩
      obtain ⟨z', hz'⟩ : ∃ z', (l.getD v zero8).at 0 = z' := ⟨_, rfl⟩
      have hzb : 0 ≤ z := by rw [← hz]; exact (S8.at_ok _ _).1
      rw [hz] at cu hstep hstepR
      rw [hz'] at cv hstepR
      obtain ⟨y, hy⟩ : ∃ y, F.getD v 0 = y := ⟨_, rfl⟩
      have hyb : y < 18446744073709551616 := hy ▸ HFb.out v
      have hyv : F[v]? = some y := by rw [← hy, List.getD_eq_getElem?_getD, List.getElem?_eq_getElem (by omega)]; rfl
      rw [hy] at hstep
      have cf := RF4.get (i := 0) rfl
      simp only [List.getElem_toArray, List.getElem_cons_zero] at cf
      have hwv : IntKind.i64.wrap (v : Int) = v := IntWalk.i64_in _ ⟨by omega, by omega⟩
      have HM2 := Lib.hid (And.intro hstep (And.intro hstepR (And.intro hFG4 (And.intro hRR4 (And.intro hT4 hyv)))))
      have Hyb := Lib.hid (And.intro hyb hzb)
      have k0 : (0 : Int) ≤ (u : Int) := by omega
      have k1 : (u : Int) < (l.length : Int) := by omega
      have k2 : (0 : Int) ≤ (v : Int) := by omega
      have k3 : (v : Int) < (n : Int) := by omega
      have k4 : (v : Int) < (l.length : Int) := by omega
      have hul : u < l.length := by omega
      have hvl : v < l.length := by omega
      have hw4 := Row.lt hFG4
      have hb2r : b2 ≠ Br := by omega
      have HC4 := Lib.hid (And.intro cu cf)
      clear hstep hstepR hFG hRR RF3 hT hA3 B3 hFG4 hRR4 RF4 hT4 hA4 hcs hcs' hz hz' hy hyv hyb hzb hu hv
      have hob : (u = s ∧ v = d ∧ decide (pd < ps) = false) ∨ (u = d ∧ v = s ∧ decide (pd < ps) = true) := by
        rcases Nat.lt_or_ge ps pd with hlt | hge
        · exact .inl ⟨by rw [hoo.1, if_pos hlt], by rw [hoo.2, if_pos hlt], decide_eq_false (by omega)⟩
        · exact .inr ⟨by rw [hoo.1, if_neg (by omega)], by rw [hoo.2, if_neg (by omega)], decide_eq_true (by omega)⟩
      clear hoo hpn
      rcases hob with ⟨rfl, rfl, t1⟩ | ⟨rfl, rfl, t1⟩
      all_goals
        rw [t1]
        clear t1
        go_wp2
        refine K.region_tail 14 (by kernel_rfl) (by kernel_rfl) ?_
        simp only [List.take_succ_cons, List.take_zero, List.drop_succ_cons, List.drop_zero]
        iterate 15 (first
          | ((with_reducible refine wpStill_step (fun KK hKK => ?_))
             first
               | ((with_reducible refine K.still_else ?_ (K.Puts.mk' _) ?_)
                  (first | rfl | (simp [Region.wanted, yielded]; done))
                  (with_reducible refine hKK _ ?_))
               | ((with_reducible refine K.still_if ?_ ?_)
                  (first | rfl | (simp [Region.wanted, yielded]; done))
                  apply K.still_val
                  · go_simp; (try go_ints); exact K.Gives.mk' _ _
                  · go_simp; exact K.Puts.mk' _
                  (with_reducible refine hKK _ ?_))
             clear hKK KK)
          | skip)
        refine wpStill_nil ?_
        go_wp2_with fail
        obtain ⟨hstep, hstepR, hFG4, hRR4, hT4, hyv⟩ := HM2.out
        refine (noteN hRl 2 _ hvn _ (show RRow w4.drew Br R from Row.drew hRR4)).mono ?_
        rintro e w5 ⟨rfl, hR5, ht5⟩
        have ht45 := (Turns.refl (fun k => k = Br) w4).drew.trans ht5
        have cu5 := turns_cell ht45 hb2r HC4.out.1
        have hFG5 : FRow w5 (Bf + 1) F [] := ht45.row hFG4 (by omega)
        have cF := hFG5.get hyv
        have fF := Row.free hFG5 v
        have hl5 := Row.lt hFG5
        have hT5 := hT4.trans (ht45.more (S' := fun k => k = Bf + 1 ∨ k = Br) (fun k h => .inr h))
        have hR5' : RRow w5 Br (rulesE l n a c (es.take (j + 1))) := by rw [hstepR]; exact hR5
        have H5 := Lib.hid (And.intro hstep (And.intro hFG5 (And.intro hR5' hT5)))
        clear hstep hstepR hFG4 hRR4 hT4 hyv hR5 ht5 ht45 hFG5 hR5' hT5 cu cf
        by_cases h2 : z < 64
        · have t2 : decide (z < 64) = true := decide_eq_true h2
          obtain ⟨t, ht⟩ : ∃ t : Nat, z = t := ⟨z.toNat, by have := Hyb.out.2; omega⟩
          subst ht
          have hsh := wrap_pow t (by omega)
          have hp : (2 : Nat) ^ t < 18446744073709551616 := by
            have := Nat.pow_lt_pow_right (a := 2) (m := t) (n := 64) (by omega) (by omega)
            simpa using this
          have hor := u64_or_nat y (2 ^ t) Hyb.out.1 hp
          have hstep2 : foldS l n a c (es.take (j + 1)) = F.set v (y ||| 2 ^ t) := by
            have := H5.out.1
            rw [if_pos ⟨h1, h2⟩, Int.toNat_natCast] at this
            exact this
          have HZ := Lib.hid (And.intro (show FRow _ (Bf + 1) _ [] from Row.drew (H5.out.2.1.set (v := v) (u := y ||| 2 ^ t) (by omega))) (And.intro (show RRow _ Br _ from Row.drew (Row.other H5.out.2.2.1 (a := ⟨Bf + 1, v, none⟩) (by show Br ≠ Bf + 1; omega) (.int .u64 ((y ||| 2 ^ t : Nat) : Int)))) ((H5.out.2.2.2.setCell (p := ⟨Bf + 1, v, none⟩) (.inl rfl) (.int .u64 ((y ||| 2 ^ t : Nat) : Int))).drew)))
          have HS2 := Lib.hid hstep2
          obtain ⟨p, hpe⟩ : ∃ p, (((2 ^ t : Nat) : Nat) : Int) = p := ⟨_, rfl⟩
          obtain ⟨q, hqe⟩ : ∃ q, (((y ||| 2 ^ t : Nat) : Nat) : Int) = q := ⟨_, rfl⟩
          rw [hqe] at HZ hor
          rw [hpe] at hor hsh
          clear hp hpe hqe hstep2
          go_wp2
          refine K.region_tail 14 (by kernel_rfl) (by kernel_rfl) ?_
          simp only [List.take_succ_cons, List.take_zero, List.drop_succ_cons, List.drop_zero]
          iterate 15 (first
            | ((with_reducible refine wpStill_step (fun KK hKK => ?_))
               first
                 | ((with_reducible refine K.still_else ?_ (K.Puts.mk' _) ?_)
                    (first | rfl | (simp [Region.wanted, yielded]; done))
                    (with_reducible refine hKK _ ?_))
                 | ((with_reducible refine K.still_if ?_ ?_)
                    (first | rfl | (simp [Region.wanted, yielded]; done))
                    apply K.still_val
                    · go_simp; (try go_ints); exact K.Gives.mk' _ _
                    · go_simp; exact K.Puts.mk' _
                    (with_reducible refine hKK _ ?_))
               clear hKK KK)
            | skip)
          refine wpStill_nil ?_
          go_wp2
          go_roundw
          case rel => exact ⟨j + 1, by omega, by go_num, by rw [HS2.out]; exact HZ.out.1, HZ.out.2.1, HZ.out.2.2⟩
          case measure => simp [intOf]; omega
        · have t2 : decide (z < 64) = false := decide_eq_false h2
          have HS2 := Lib.hid (show foldS l n a c (es.take (j + 1)) = F by
            have := H5.out.1
            rw [if_neg (fun h => h2 h.2)] at this
            exact this)
          clear h2
          go_wp2
          go_roundw
          case rel => exact ⟨j + 1, by omega, by go_num, by rw [HS2.out]; exact H5.out.2.1, H5.out.2.2.1, H5.out.2.2.2⟩
          case measure => simp [intOf]; omega
    · obtain rfl : j = es.length := by omega
      have hkb : decide ((es.length : Int) < (es.length : Int)) = false := by simp
      rw [List.take_of_length_le (Nat.le_refl _)] at hFG hRR
      obtain ⟨F, hFe⟩ : ∃ F, foldS l n a c es = F := ⟨_, rfl⟩
      obtain ⟨R0', hRe⟩ : ∃ R0, rulesE l n a c es = R0 := ⟨_, rfl⟩
      have hFl : F.length = n := by rw [← hFe]; exact foldS_length l n a c _
      have hFb : ∀ v, F.getD v 0 < 18446744073709551616 := by rw [← hFe]; exact foldS_lt l n a c _
      have hR0l : R0'.length = n := by rw [← hRe]; exact rulesE_length l n a c _
      rw [hFe] at hFG
      rw [hRe] at hRR
      have R63 := hT.row R62 (by omega)
      have H3 := Lib.hid (And.intro R63 (And.intro hRR (And.intro RF3 (And.intro hFG (And.intro B3 (And.intro hFe hRe))))))
      have HFb := Lib.hid hFb
      clear R02 R62 RR2 RF2 RG2 B2 R03 B3 hFG hT R63 hRR RF3 hFe hRe hFb
      go_wp2
      go_loopw [12] (fun i wr => RelCB l n Br R0' F w3 i wr) (fun i _ => n - (intOf i).toNat)
      case atStart => exact ⟨0, Nat.zero_le _, rfl, H3.out.2.1, Turns.refl _ _⟩
      case round =>
        obtain ⟨i, hi, rfl, hRR, hT⟩ := hrel
        rename World => w4
        obtain ⟨R63, RR3, RF3, hFG, B3, hFe, hRe0⟩ := H3.out
        have R64 := hT.row R63 (by omega)
        have RF4 := hT.row RF3 (by omega)
        have hFG4 : FRow w4 (Bf + 1) F [] := hT.row hFG (by omega)
        have B4 := B3.trans (hT.below (n := w.heap.size) (by omega) (fun k h => by omega))
        have S4 := hT.size
        obtain ⟨R, hRe⟩ : ∃ R, rulesC R0' l F i = R := ⟨_, rfl⟩
        have hRl : R.length = n := by rw [← hRe, rulesC_length]; exact hR0l
        rw [hRe] at hRR
        have cf := RF4.get (i := 0) rfl
        simp only [List.getElem_toArray, List.getElem_cons_zero] at cf
        rcases Nat.lt_or_ge i n with h7 | h7
        · have hkb2 : decide ((i : Int) < (n : Int)) = true := decide_eq_true (by omega)
          have hA4 := HA.out.below B4
          obtain ⟨b2, off2, rfl, hb2, hcs⟩ := lay_at hA4 (k := i) (by omega)
          have cu := hcs 0 (by omega)
          rw [Nat.add_zero] at cu
          have hnext : rulesC R0' l F (i + 1) = lookRC R i ((l.getD i zero8).at 0) (F.getD i 0) := by rw [rulesC, hRe]
          have hzb := S8.at_ok (l.getD i zero8) 0
          obtain ⟨z, hz⟩ : ∃ z, (l.getD i zero8).at 0 = z := ⟨_, rfl⟩
          rw [hz] at cu hnext hzb
          unfold lookRC at hnext
          obtain ⟨y, hy⟩ : ∃ y, F.getD i 0 = y := ⟨_, rfl⟩
          have hyb : y < 18446744073709551616 := hy ▸ HFb.out i
          have hyv : F[i]? = some y := by rw [← hy, List.getD_eq_getElem?_getD, List.getElem?_eq_getElem (by omega)]; rfl
          rw [hy] at hnext
          have k0 : (0 : Int) ≤ (i : Int) := by omega
          have k1 : (i : Int) < (l.length : Int) := by omega
          have k2 : (i : Int) < (n : Int) := by omega
          have hil : i < l.length := by omega
          have hb2f : b2 ≠ Br := by omega
          have hlg := Row.lt hFG4
          have cy := hFG4.get hyv
          have HK4 := Lib.hid (And.intro cu (And.intro cf cy))
          have HM := Lib.hid (And.intro hnext (And.intro hT hRR))
          have hw4l : Br < w4.heap.size := Row.lt hRR
          clear hnext hT hRR hRe R63 RR3 RF3 hFG B3 hFe hRe0 R64 RF4 hFG4 B4 hA4 hcs hz hy hyv
          go_wp2_with fail
          refine (noteN hRl 1 (decide (63 < z)) h7 _ HM.out.2.2).mono ?_
          rintro e w5 ⟨rfl, hR5, ht5⟩
          have a2 := turns_cell ht5 (by omega) HK4.out.2.1
          have a3 := turns_cell ht5 (by omega) HK4.out.2.2
          obtain ⟨R1, hR1⟩ : ∃ R1, noteR R i 1 (decide (63 < z)) = R1 := ⟨_, rfl⟩
          have hR1l : R1.length = n := by rw [← hR1, noteR_length]; exact hRl
          rw [hR1] at hR5
          have H5 := Lib.hid (And.intro hR1 (And.intro hR5 (HM.out.2.1.trans ht5)))
          clear hR1 hR5 ht5 cu cf cy
          by_cases h2 : z < 64
          · have t2 : decide (z < 64) = true := decide_eq_true h2
            have t3 : decide ((64 : Int) < z) = false := decide_eq_false (by omega)
            obtain ⟨t, ht⟩ : ∃ t : Nat, z = t := ⟨z.toNat, by omega⟩
            subst ht
            have hmk : mask (t : Int) = 2 ^ t - 1 := by unfold mask; rw [if_pos h2, Int.toNat_natCast]
            have hsh := wrap_pow t (by omega)
            have hmin : min t 64 = t := by omega
            have hp : (2 : Nat) ^ t < 18446744073709551616 := by
              have := Nat.pow_lt_pow_right (a := 2) (m := t) (n := 64) (by omega) (by omega)
              simpa using this
            have hp0 : 0 < (2 : Nat) ^ t := Nat.pow_pos (by decide)
            obtain ⟨m, hm⟩ : ∃ m, 2 ^ t - 1 = m := ⟨_, rfl⟩
            rw [hm] at hmk
            obtain ⟨p, hpe⟩ : ∃ p : Nat, 2 ^ t = p := ⟨_, rfl⟩
            rw [hpe] at hp hp0 hsh hm
            have hand := u64_and_nat y m hyb (by omega)
            have hsub : (p : Int) - 1 = m := by omega
            have hw1 : IntKind.u64.wrap ((p : Int) - 1) = m := by rw [hsub]; exact IntWalk.u64_in _ ⟨by omega, by omega⟩
            have hw2 : IntKind.u64.wrap ((m : Nat) : Int) = m := IntWalk.u64_in _ ⟨by omega, by omega⟩
            have hb := bne_cast (y &&& m) m
            obtain ⟨q, hq⟩ : ∃ q, y &&& m = q := ⟨_, rfl⟩
            rw [hq] at hand hb
            obtain ⟨p1, hp1⟩ : ∃ p1, (q != m) = p1 := ⟨_, rfl⟩
            rw [hp1] at hb
            have hnx : rulesC R0' l F (i + 1) = noteR R1 i 3 (p1 || false) := by
              rw [HM.out.1, H5.out.1, hmk, hq, hp1, t3]
            have HN := Lib.hid hnx
            clear hnx hmk hp hp0 hpe hq hp1 hm h2
            cases p1
            all_goals
              go_wp2
              refine K.region_tail 14 (by kernel_rfl) (by kernel_rfl) ?_
              simp only [List.take_succ_cons, List.take_zero, List.drop_succ_cons, List.drop_zero]
              iterate 15 (first
                | ((with_reducible refine wpStill_step (fun KK hKK => ?_))
                   first
                     | ((with_reducible refine K.still_else ?_ (K.Puts.mk' _) ?_)
                        (first | rfl | (simp [Region.wanted, yielded]; done))
                        (with_reducible refine hKK _ ?_))
                     | ((with_reducible refine K.still_if ?_ ?_)
                        (first | rfl | (simp [Region.wanted, yielded]; done))
                        apply K.still_val
                        · go_simp; (try go_ints); exact K.Gives.mk' _ _
                        · go_simp; exact K.Puts.mk' _
                        (with_reducible refine hKK _ ?_))
                   clear hKK KK)
                | skip)
              refine wpStill_nil ?_
              go_wp2_with fail
              refine (noteN hR1l 3 _ h7 _ (show RRow w5.drew Br R1 from Row.drew H5.out.2.1)).mono ?_
              rintro e w6 ⟨rfl, hR6, ht6⟩
              have hR6' : RRow w6 Br (rulesC R0' l F (i + 1)) := by rw [HN.out]; exact hR6
              have H6 := Lib.hid (And.intro hR6' (H5.out.2.2.trans ((Turns.refl _ w5).drew.trans ht6)))
              clear hR6 hR6' ht6
              go_wp2
              go_roundw
              case rel => exact ⟨i + 1, by omega, by go_num, H6.out.1, H6.out.2⟩
              case measure => simp [intOf]; omega
          · have t2 : decide (z < 64) = false := decide_eq_false h2
            have hmk : mask z = 18446744073709551615 := by unfold mask; rw [if_neg h2]
            have hand0 := u64_and_nat y 18446744073709551615 hyb (by decide)
            have hyy : y &&& 18446744073709551615 = y := by
              have := Nat.and_two_pow_sub_one_eq_mod y 64
              rw [show (2 : Nat) ^ 64 - 1 = 18446744073709551615 from rfl, Nat.mod_eq_of_lt (by omega)] at this
              exact this
            rw [hyy] at hand0
            have hand : bits .and .u64 (y : Int) 18446744073709551615 = y := hand0
            have hb := bne_cast y 18446744073709551615
            obtain ⟨p1, hp1⟩ : ∃ p1, (y != 18446744073709551615) = p1 := ⟨_, rfl⟩
            rw [hp1] at hb
            have hb' : ((y : Int) != 18446744073709551615) = p1 := hb
            obtain ⟨p2, hp2⟩ : ∃ p2, decide ((64 : Int) < z) = p2 := ⟨_, rfl⟩
            have hnx : rulesC R0' l F (i + 1) = noteR R1 i 3 (p1 || p2) := by
              rw [HM.out.1, H5.out.1, hmk, hyy, hp1, hp2]
            have HN := Lib.hid hnx
            clear hnx hmk hyy hp1 h2 hand0 hb
            cases p1
            all_goals
              go_wp2
              refine K.region_tail 14 (by kernel_rfl) (by kernel_rfl) ?_
              simp only [List.take_succ_cons, List.take_zero, List.drop_succ_cons, List.drop_zero]
              iterate 15 (first
                | ((with_reducible refine wpStill_step (fun KK hKK => ?_))
                   first
                     | ((with_reducible refine K.still_else ?_ (K.Puts.mk' _) ?_)
                        (first | rfl | (simp [Region.wanted, yielded]; done))
                        (with_reducible refine hKK _ ?_))
                     | ((with_reducible refine K.still_if ?_ ?_)
                        (first | rfl | (simp [Region.wanted, yielded]; done))
                        apply K.still_val
                        · go_simp; (try go_ints); exact K.Gives.mk' _ _
                        · go_simp; exact K.Puts.mk' _
                        (with_reducible refine hKK _ ?_))
                   clear hKK KK)
                | skip)
              refine wpStill_nil ?_
              go_wp2_with fail
              refine (noteN hR1l 3 _ h7 _ (show RRow w5.drew Br R1 from Row.drew H5.out.2.1)).mono ?_
              rintro e w6 ⟨rfl, hR6, ht6⟩
              have hR6' : RRow w6 Br (rulesC R0' l F (i + 1)) := by rw [HN.out]; exact hR6
              have H6 := Lib.hid (And.intro hR6' (H5.out.2.2.trans ((Turns.refl _ w5).drew.trans ht6)))
              clear hR6 hR6' ht6
              go_wp2
              go_roundw
              case rel => exact ⟨i + 1, by omega, by go_num, H6.out.1, H6.out.2⟩
              case measure => simp [intOf]; omega
        · obtain rfl : i = n := by omega
          have hkb2 : decide ((i : Int) < (i : Int)) = false := by simp
          have HR := Lib.hid (And.intro hRR (And.intro R64 (And.intro B4 hRe)))
          have hsz := RF4.lt
          clear hRR R64 B4 hRe R63 RR3 RF3 hFG B3 hFe hRe0 RF4 hFG4 hT
          go_wp2_with fail
          obtain ⟨hRR, R64, B4, hRe⟩ := HR.out
          refine (verdictN hRl hn5 w4 hRR).mono ?_
          rintro e w5 ⟨rfl, hb5⟩
          obtain ⟨r, v, q, hag⟩ := Labels.verdict_agg 0 (firstF R R.length 0)
          rw [hag]
          have Hag := Lib.hid (And.intro hag (And.intro hRe H3.out.2.2.2.2.2))
          have RV := R64.below hb5 R64.lt
          have hv0 := RV.get (i := 0) rfl
          have hv1 := RV.get (i := 1) rfl
          have hv2 := RV.get (i := 2) rfl
          have hf0 := RV.free 0
          have hf1 := RV.free 1
          have hf2 := RV.free 2
          simp only [List.getElem_toArray, List.getElem_cons_zero, List.getElem_cons_succ] at hv0 hv1 hv2
          have RZ := Lib.hid (((RV.set 0 (.bool r)).set 1 (.int .u32 v)).set 2 (.int .i64 q))
          have BZ := Lib.hid ((((B4.trans (hb5.mono B4.size)).setCell (p := ⟨w.heap.size + 1, 0, none⟩) (by show w.heap.size ≤ w.heap.size + 1; omega) (.bool r)).setCell (p := ⟨w.heap.size + 1, 1, none⟩) (by show w.heap.size ≤ w.heap.size + 1; omega) (.int .u32 v)).setCell (p := ⟨w.heap.size + 1, 2, none⟩) (by show w.heap.size ≤ w.heap.size + 1; omega) (.int .i64 q))
          clear hRR R64 B4 hRe hag RV hb5
          go_wp2
          refine bodyPost_ret (rcol_ver rfl RZ.out) rfl ⟨?_, BZ.out⟩
          rw [Hag.out.2.2.1, Hag.out.2.2.2, Hag.out.2.1, Hag.out.1]
end Go.Proofs.Ytepljdnhnnpdmaa.Sets
