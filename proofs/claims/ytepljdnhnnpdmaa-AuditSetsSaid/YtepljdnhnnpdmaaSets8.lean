/-
  The document's audit of sets, walked. No condition.
-/
import Derived.Test.YtepljdnhnnpdmaaSets7
set_option linter.unusedVariables false
set_option linter.unusedSimpArgs false
namespace Go.Proofs.Ytepljdnhnnpdmaa.Sets
open Go.RowKit Go.Shelf K Feed Desk Forest Case Rank Labels Cores CoreNum Faults

def RelEA (l : List S8) (n a c Bo : Nat) (es : List E3) (W : World) (i : Value) (wr : World) : Prop :=
  ∃ j : Nat, j ≤ es.length ∧ i = .int .i64 j ∧ GRow wr Bo (foldA l n a c (es.take j)) ∧ Turns (fun k => k = Bo) W wr
def RelEB (l : List S8) (n Br : Nat) (F : List Nat) (W : World) (i : Value) (wr : World) : Prop :=
  ∃ j : Nat, j ≤ n ∧ i = .int .i64 j ∧ RRow wr Br (rulesI n l F j) ∧ Turns (fun k => k = Br) W wr
def RefAt (w : World) (R : List Int) (e : Ending) (w' : World) : Prop := e = .returned (verdictOf 0 (firstF R R.length 0)) ∧ Below w.heap.size w w'
theorem foldA_take (l : List S8) (n a c : Nat) (es : List E3) {j : Nat} {x : E3} (hx : es[j]? = some x) : foldA l n a c (es.take (j + 1)) = stepA l n a c (foldA l n a c (es.take j)) x := by
  obtain ⟨hj', e⟩ := List.getElem?_eq_some_iff.1 hx
  rw [List.take_succ_eq_append_getElem hj', foldA_snoc, e]
theorem rind_ver {tmps : Array Value} {W : World} {V : Nat} {r : Bool} {v q : Int} (h6 : tmps[6]? = some (.pointer (some ⟨V, 0, none⟩))) (hR : Row W V 79 #[.bool r, .int .u32 v, .int .i64 q]) :
    (results Try.f52 tmps).run Try.prog W = .ok (.agg #[.bool r, .int .u32 v, .int .i64 q]) W := by
  have c0 := hR.get (i := 0) rfl
  have c1 := hR.get (i := 1) rfl
  have c2 := hR.get (i := 2) rfl
  simp only [List.getElem_toArray, List.getElem_cons_zero, List.getElem_cons_succ] at c0 c1 c2
  simp [results, Try.f52, Try.results52, go_sem, h6, c0, c1, c2]
theorem noteN {n g v : Nat} {R : List Int} (hR : R.length = n) (r : Int) (is : Bool) (hv : v < n) (w : World) (h : RRow w g R) :
    Calls Try.prog 80 #[.agg #[.slice (some ⟨g, 0, none⟩) n n], .int .i64 v, .int .i64 r, .bool is] w (NoteAt g (noteR R v r is) w) := by
  subst hR
  exact Faults.note g R v r is hv w h
theorem verdictN {n g : Nat} {R : List Int} (hR : R.length = n) (hn : n ≤ 5000) (w : World) (h : RRow w g R) :
    Calls Try.prog 81 #[.agg #[.slice (some ⟨g, 0, none⟩) n n]] w (VerAt R w) := by
  subst hR
  exact Faults.verdict g R hn w h
set_option maxRecDepth 100000 in
set_option maxHeartbeats 4000000 in
theorem refInd (n a c : Nat) (hn5 : n ≤ 5000) (hO : isOrder n a c = 0) (A B : Option Addr) (l : List S8) (es : List E3) (scap ecap : Nat) (hl : l.length = n) (hr : es.length * 12 ≤ 140737488351232) (hgood : ∀ x ∈ es, x.s < n ∧ x.d < n) (w : World)
    (hA : Lay w w.heap.size A (svs l)) (hB : Lay w w.heap.size B (evs es)) :
    Calls Try.prog 52 #[.agg #[.int .u32 n, .int .u32 a, .int .u32 c], .slice B es.length ecap, .slice A l.length scap] w (RefAt w (rulesI n l (foldA l n a c es) n)) := by
  obtain ⟨m1, m2, m3, m4⟩ := isOrder_yes hO
  obtain ⟨i1, hi1, hy0, hy1, hy2⟩ := info_parts infoB
  have hmb := fun W => make_one (P := Try.prog) W .u32 67 4 i1 (.bool false) rfl Try.underlying67 hi1 hy0 hy1 n (by rw [hy2]; omega) (by omega)
  have hbg := Lib.hid (fun W => Faults.begin n hn5 W)
  have hpl := Lib.hid (fun v (hv : v < n) W => place18 n a c v hO hv W)
  have hij := Lib.hid (fun s d (hs : s < n) (hd : d < n) => pl_inj (n := n) (a := a) (c := c) hO hs hd)
  have HA := Lib.hid hA
  have HB := Lib.hid hB
  have HG := Lib.hid hgood
  have R0 := Lib.hid ((Row.new w 72 #[.int .u32 n, .int .u32 a, .int .u32 c]).alloc (.cells #[.bool false, .int .u32 0, .int .i64 0] 79))
  have R6 := Lib.hid (Row.at (Row.new (w.alloc (.cells #[.int .u32 n, .int .u32 a, .int .u32 c] 72)) 79 #[.bool false, .int .u32 0, .int .i64 0]) (b' := w.heap.size + 1) (by simp))
  have B0 := Lib.hid (((Below.refl w.heap.size w).alloc (Nat.le_refl _) (.cells #[.int .u32 n, .int .u32 a, .int .u32 c] 72)).alloc (by simp) (.cells #[.bool false, .int .u32 0, .int .i64 0] 79))
  clear hA hB hgood hO
  go_enter Try.func52, Try.ntmps52
  go_wp2_with fail
  refine (hbg.out _).mono ?_
  rintro e w1 ⟨Br, rfl, hBr, hRR, hb1⟩
  have s1 := hb1.size
  simp only [World.size_alloc] at s1 hBr
  have R01 := R0.out.below hb1 (by simp only [World.size_alloc]; omega)
  have R61 := R6.out.below hb1 (by simp only [World.size_alloc]; omega)
  have B1 := B0.out.trans (hb1.mono (by simp only [World.size_alloc]; omega))
  have hBl := Row.lt hRR
  obtain ⟨W2, hW2⟩ : ∃ W2, (w1.alloc (.cells #[.slice (some ⟨Br, 0, none⟩) n n] 126)).alloc (.cells (List.replicate n (Value.bool false)).toArray 4) = W2 := ⟨_, rfl⟩
  obtain ⟨Bf, hBf⟩ : ∃ Bf, w1.heap.size = Bf := ⟨_, rfl⟩
  have R02 := (R01.alloc (.cells #[.slice (some ⟨Br, 0, none⟩) n n] 126)).alloc (.cells (List.replicate n (Value.bool false)).toArray 4)
  have R62 := (R61.alloc (.cells #[.slice (some ⟨Br, 0, none⟩) n n] 126)).alloc (.cells (List.replicate n (Value.bool false)).toArray 4)
  have RR2 : RRow ((w1.alloc (.cells #[.slice (some ⟨Br, 0, none⟩) n n] 126)).alloc (.cells (List.replicate n (Value.bool false)).toArray 4)) Br (List.replicate n 0) := Row.alloc (Row.alloc hRR (.cells #[.slice (some ⟨Br, 0, none⟩) n n] 126)) (.cells (List.replicate n (Value.bool false)).toArray 4)
  have RF2 := ((Row.new w1 126 #[.slice (some ⟨Br, 0, none⟩) n n]).at hBf).alloc (.cells (List.replicate n (Value.bool false)).toArray 4)
  have RG2 : GRow ((w1.alloc (.cells #[.slice (some ⟨Br, 0, none⟩) n n] 126)).alloc (.cells (List.replicate n (Value.bool false)).toArray 4)) (Bf + 1) (List.replicate n 0) := by
    have := Row.at (Row.new (w1.alloc (.cells #[.slice (some ⟨Br, 0, none⟩) n n] 126)) 4 (List.replicate n (Value.bool false)).toArray) (b' := Bf + 1) (by simp [hBf])
    simpa [GRow, bv] using this
  have B2 := (B1.alloc (by omega) (.cells #[.slice (some ⟨Br, 0, none⟩) n n] 126)).alloc (by simp only [World.size_alloc]; omega) (.cells (List.replicate n (Value.bool false)).toArray 4)
  have S2 : W2.heap.size = Bf + 2 := by rw [← hW2]; simp [hBf]
  rw [hW2] at R02 R62 RR2 RF2 RG2 B2
  have c0 := R01.get (i := 0) rfl
  simp only [List.getElem_toArray, List.getElem_cons_zero] at c0
  have hs1 : w.heap.size + 1 < Bf := by omega
  have hlt1 : w.heap.size < w1.heap.size := by omega
  have hBB : Br < Bf := by omega
  have H2 := Lib.hid (And.intro R02 (And.intro R62 (And.intro RR2 (And.intro RF2 (And.intro RG2 B2)))))
  have HE := Lib.hid (And.intro hW2 (And.intro hBf S2))
  clear R01 R61 B1 R02 R62 RR2 RF2 RG2 B2 hRR hb1 S2 hW2 hBf s1
  go_wp2
  obtain ⟨hW2, hBf, S2⟩ := HE.out
  rw [hBf]
  have HW2 := Lib.hid hW2
  clear hW2 hBf HE
  go_loopw [9] (fun i wr => RelEA l n a c (Bf + 1) es W2 i wr) (fun i _ => es.length - (intOf i).toNat)
  case atStart =>
    have hW2 := HW2.out
    simp only [List.toArray_replicate] at hW2
    rw [hW2]
    exact ⟨0, Nat.zero_le _, rfl, H2.out.2.2.2.2.1, Turns.refl _ _⟩
  case round =>
    obtain ⟨j, hj, rfl, hFG, hT⟩ := hrel
    rename World => w3
    obtain ⟨R02, R62, RR2, RF2, RG2, B2⟩ := H2.out
    have R03 := hT.row R02 (by omega)
    have B3 := B2.trans (hT.below (n := w.heap.size) (by omega) (fun k h => by omega))
    have S3 := hT.size
    rcases Nat.lt_or_ge j es.length with h6 | h6
    · obtain ⟨x, hx⟩ : ∃ x, es[j]? = some x := ⟨_, List.getElem?_eq_getElem h6⟩
      have hstep := foldA_take l n a c es hx
      obtain ⟨F, hFe⟩ : ∃ F, foldA l n a c (es.take j) = F := ⟨_, rfl⟩
      have hFl : F.length = n := by rw [← hFe]; exact foldA_length l n a c _
      rw [hFe] at hFG hstep
      have hxg := HG.out x (List.mem_of_getElem? hx)
      obtain ⟨b, off, rfl, hBb, e0, e1, -⟩ := (HB.out.below B3).edge hx
      obtain ⟨s, hs⟩ : ∃ s : Nat, x.s = s := ⟨x.s.toNat, by have := x.sb; omega⟩
      obtain ⟨d, hd⟩ : ∃ d : Nat, x.d = d := ⟨x.d.toNat, by have := x.db; omega⟩
      rw [stepA_nat l n a c F x hs hd] at hstep
      rw [hs, hd] at hxg
      rw [hs] at e0
      rw [hd] at e1
      have hsn : s < n := by omega
      have hdn : d < n := by omega
      have hkb : decide ((j : Int) < (es.length : Int)) = true := decide_eq_true (by omega)
      by_cases h1 : s = d
      · rw [if_neg (fun h => h.1 h1)] at hstep
        have d1 : ((s : Int) == (d : Int)) = true := by simp [h1]
        have HM := Lib.hid (And.intro hstep (And.intro hFG hT))
        clear h1 hstep hFG hT hFe hs hd hx R02 R62 RR2 RF2 RG2 B2 R03 B3
        go_wp2
        go_roundw
        case rel => exact ⟨j + 1, by omega, by go_num, by rw [HM.out.1]; exact HM.out.2.1, HM.out.2.2⟩
        case measure => simp [intOf]; omega
      have d1 : ((s : Int) == (d : Int)) = false := by simp; omega
      have hA3 := HA.out.below B3
      have q0 := R03.get (i := 0) rfl
      have q1 := R03.get (i := 1) rfl
      have q2 := R03.get (i := 2) rfl
      simp only [List.getElem_toArray, List.getElem_cons_zero, List.getElem_cons_succ] at q0 q1 q2
      have p1 := Lib.hid (hpl.out s hsn)
      have p2 := Lib.hid (hpl.out d hdn)
      have hne := hij.out s d hsn hdn
      have HO1 := Lib.hid (show ordS n a c s d = if pl n a c s < pl n a c d then s else d from rfl)
      have HO2 := Lib.hid (show ordD n a c s d = if pl n a c s < pl n a c d then d else s from rfl)
      obtain ⟨ps, hps⟩ : ∃ ps, pl n a c s = ps := ⟨_, rfl⟩
      obtain ⟨pd, hpd⟩ : ∃ pd, pl n a c d = pd := ⟨_, rfl⟩
      rw [hps, hpd] at hne HO1 HO2
      rw [hps] at p1
      rw [hpd] at p2
      have hpn : ps ≠ pd := fun e => h1 (hne.1 e)
      have hR0l := R03.lt
      have HC := Lib.hid (fun w' (h : Below w3.heap.size w3 w') => (show w'.cell? ⟨w.heap.size, 0, none⟩ = some (.int .u32 n) ∧ w'.cell? ⟨w.heap.size, 1, none⟩ = some (.int .u32 a) ∧ w'.cell? ⟨w.heap.size, 2, none⟩ = some (.int .u32 c) from
        ⟨(R03.below h hR0l).get (i := 0) rfl, (R03.below h hR0l).get (i := 1) rfl, (R03.below h hR0l).get (i := 2) rfl⟩))
      have HM := Lib.hid (And.intro hstep (And.intro hFG (And.intro hT (And.intro hA3 B3))))
      have HBE := Lib.hid (fun w' (h : Below w3.heap.size w3 w') => (show w'.cell? ⟨b, off + j * 3, none⟩ = some (.int .u32 s) ∧ w'.cell? ⟨b, off + j * 3 + 1, none⟩ = some (.int .u32 d) from
        ⟨(h.cell (p := ⟨b, off + j * 3, none⟩) (by show b < w3.heap.size; omega)).trans e0, (h.cell (p := ⟨b, off + j * 3 + 1, none⟩) (by show b < w3.heap.size; omega)).trans e1⟩))
      clear hne hps hpd hstep hFG hT hFe hs hd hx R02 R62 RR2 RF2 RG2 B2 R03 B3 hA3
      go_wp2
      refine K.region_quiet (C := fun w' => Below w3.heap.size w3 w') (by kernel_rfl) (by kernel_rfl) (K.below_draw w3) ?_
      iterate 7 (first
        | ((with_reducible refine wpQuiet_step (fun KK hKK => ?_))
           first
             | ((with_reducible refine K.quiet_else ?_ (K.Puts.mk' _) ?_)
                (first | rfl | (simp [Region.wanted, yielded]; done))
                (with_reducible refine hKK _ ?_))
             | ((with_reducible refine K.quiet_if ?_ ?_)
                (first | rfl | (simp [Region.wanted, yielded]; done))
                first
                  | (apply K.quiet_val
                     · intro w' hw'; obtain ⟨k0, k1, k2⟩ := HC.out w' hw'; go_simp; (try go_ints); exact K.Gives.mk' _ _
                     · go_simp; exact K.Puts.mk' _)
                  | (apply K.quiet_call
                     · intro w' hw'; obtain ⟨k0, k1, k2⟩ := HC.out w' hw'; go_simp; (try go_ints); exact K.Enters.mk' _ _ _
                     · intro w' hw'; obtain ⟨k0, k1, k2⟩ := HC.out w' hw'; first
                       | with_reducible exact K.calls_below hw' hw'.size (p1.out _)
                       | with_reducible exact K.calls_below hw' hw'.size (p2.out _)
                       | exact K.calls_below hw' hw'.size (p1.out _)
                       | exact K.calls_below hw' hw'.size (p2.out _)
                     · go_simp; exact K.Puts.mk' _)
                (with_reducible refine hKK _ ?_))
           clear hKK KK)
        | skip)
      refine wpQuiet_nil ?_
      intro w4 hb4
      obtain ⟨hstep, hFG, hT, hA3, B3⟩ := HM.out
      have hFG4 : GRow w4 (Bf + 1) F := Row.below hFG hb4 (Row.lt hFG)
      have hT4 := hT.trans (Turns.of_below hb4 (S := fun k => k = Bf + 1))
      have hA4 := hA3.below (hb4.mono (by have := B3.size; omega))
      obtain ⟨e0', e1'⟩ := HBE.out w4 hb4
      have hoo : (ordS n a c s d = if ps < pd then s else d) ∧ (ordD n a c s d = if ps < pd then d else s) := ⟨HO1.out, HO2.out⟩
      obtain ⟨u, hu⟩ : ∃ u, ordS n a c s d = u := ⟨_, rfl⟩
      obtain ⟨v, hv⟩ : ∃ v, ordD n a c s d = v := ⟨_, rfl⟩
      have hun : u < n := hu ▸ ordS_lt hsn hdn
      have hvn : v < n := hv ▸ ordD_lt hsn hdn
      rw [hu, hv] at hoo hstep
      obtain ⟨b2, off2, rfl, hb2, hcs⟩ := lay_at hA4 (k := u) (by omega)
      have cu := hcs 0 (by omega)
      rw [Nat.add_zero] at cu
      obtain ⟨z, hz⟩ : ∃ z, (l.getD u zero8).at 0 = z := ⟨_, rfl⟩
      rw [hz] at cu hstep
      have cv := hFG4.get (v := v) (by omega)
      have fv := Row.free hFG4 v
      have hbo := Sets.GRow.orset hFG4 (v := v) (by omega) (z == 1)
      have hstep' : foldA l n a c (es.take (j + 1)) = if (z == 1) = true then F.set v 1 else F := by
        rw [hstep]
        by_cases hz1 : z = 1
        · rw [if_pos ⟨h1, hz1⟩, if_pos (by simpa using hz1)]
        · rw [if_neg (fun h => hz1 h.2), if_neg (by simpa using hz1)]
      have hToo : Turns (fun k => k = Bf + 1) W2 (w4.setCell ⟨Bf + 1, v, none⟩ (.bool ((F.getD v 0 != 0) || (z == 1)))) := hT4.setCell (p := ⟨Bf + 1, v, none⟩) rfl _
      obtain ⟨bb, hbb⟩ : ∃ bb, (F.getD v 0 != 0) = bb := ⟨_, rfl⟩
      obtain ⟨zb, hzb⟩ : ∃ zb, (z == 1) = zb := ⟨_, rfl⟩
      rw [hbb] at cv hbo hToo
      rw [hzb] at hbo hToo hstep'
      have HM2 := Lib.hid (And.intro hstep' (And.intro hbo hToo))
      have Hzb := Lib.hid hzb
      have k0 : (0 : Int) ≤ (u : Int) := by omega
      have k1 : (u : Int) < (l.length : Int) := by omega
      have k2 : (0 : Int) ≤ (v : Int) := by omega
      have k3 : (v : Int) < (n : Int) := by omega
      have hul : u < l.length := by omega
      have hw4 := Row.lt hFG4
      clear hstep hFG hT hA3 B3 hFG4 hT4 hA4 hcs hz hbo hToo hstep' hbb hu hv
      rcases Nat.lt_or_ge ps pd with hlt | hge
      · obtain ⟨rfl, rfl⟩ : u = s ∧ v = d := ⟨by rw [hoo.1, if_pos hlt], by rw [hoo.2, if_pos hlt]⟩
        have t1 : decide (pd < ps) = false := decide_eq_false (by omega)
        rw [t1]
        clear hoo hlt hpn
        cases bb <;> cases zb
        all_goals
          have hzb := Hzb.out
          go_wp2
          go_roundw
          case rel => exact ⟨j + 1, by omega, by go_num, by rw [HM2.out.1]; exact HM2.out.2.1, HM2.out.2.2⟩
          case measure => simp [intOf]; omega
      · obtain ⟨rfl, rfl⟩ : u = d ∧ v = s := ⟨by rw [hoo.1, if_neg (by omega)], by rw [hoo.2, if_neg (by omega)]⟩
        have t1 : decide (pd < ps) = true := decide_eq_true (by omega)
        rw [t1]
        clear hoo hge hpn
        cases bb <;> cases zb
        all_goals
          have hzb := Hzb.out
          go_wp2
          go_roundw
          case rel => exact ⟨j + 1, by omega, by go_num, by rw [HM2.out.1]; exact HM2.out.2.1, HM2.out.2.2⟩
          case measure => simp [intOf]; omega
    · obtain rfl : j = es.length := by omega
      have hkb : decide ((es.length : Int) < (es.length : Int)) = false := by simp
      rw [List.take_of_length_le (Nat.le_refl _)] at hFG
      obtain ⟨F, hFe⟩ : ∃ F, foldA l n a c es = F := ⟨_, rfl⟩
      have hFl : F.length = n := by rw [← hFe]; exact foldA_length l n a c _
      rw [hFe] at hFG
      have R63 := hT.row R62 (by omega)
      have RR3 : RRow w3 Br _ := hT.row RR2 (by omega)
      have RF3 := hT.row RF2 (by omega)
      have H3 := Lib.hid (And.intro R63 (And.intro RR3 (And.intro RF3 (And.intro hFG (And.intro B3 hFe)))))
      clear R02 R62 RR2 RF2 RG2 B2 R03 B3 hFG hT R63 RR3 RF3 hFe
      go_wp2
      go_loopw [12] (fun i wr => RelEB l n Br F w3 i wr) (fun i _ => n - (intOf i).toNat)
      case atStart => exact ⟨0, Nat.zero_le _, rfl, H3.out.2.1, Turns.refl _ _⟩
      case round =>
        obtain ⟨i, hi, rfl, hRR, hT⟩ := hrel
        rename World => w4
        obtain ⟨R63, RR3, RF3, hFG, B3, hFe⟩ := H3.out
        have R64 := hT.row R63 (by omega)
        have RF4 := hT.row RF3 (by omega)
        have hFG4 : GRow w4 (Bf + 1) F := hT.row hFG (by omega)
        have B4 := B3.trans (hT.below (n := w.heap.size) (by omega) (fun k h => by omega))
        have S4 := hT.size
        obtain ⟨R, hRe⟩ : ∃ R, rulesI n l F i = R := ⟨_, rfl⟩
        have hRl : R.length = n := by rw [← hRe]; exact rulesI_length n l F i
        rw [hRe] at hRR
        have cf := RF4.get (i := 0) rfl
        simp only [List.getElem_toArray, List.getElem_cons_zero] at cf
        rcases Nat.lt_or_ge i n with h7 | h7
        · have hkb2 : decide ((i : Int) < (n : Int)) = true := decide_eq_true (by omega)
          have hA4 := HA.out.below B4
          obtain ⟨b2, off2, rfl, hb2, hcs⟩ := lay_at hA4 (k := i) (by omega)
          have cu := hcs 0 (by omega)
          rw [Nat.add_zero] at cu
          have hnext : rulesI n l F (i + 1) = lookR R i ((l.getD i zero8).at 0) (F.getD i 0) := by rw [rulesI, hRe]
          obtain ⟨z, hz⟩ : ∃ z, (l.getD i zero8).at 0 = z := ⟨_, rfl⟩
          rw [hz] at cu hnext
          unfold lookR at hnext
          have cv := hFG4.get (v := i) (by omega)
          obtain ⟨bb, hbb⟩ : ∃ bb, (F.getD i 0 != 0) = bb := ⟨_, rfl⟩
          rw [hbb] at cv hnext
          have k0 : (0 : Int) ≤ (i : Int) := by omega
          have k1 : (i : Int) < (l.length : Int) := by omega
          have k2 : (i : Int) < (n : Int) := by omega
          have hil : i < l.length := by omega
          have hb2f : b2 ≠ Br := by omega
          have hBf1 : Bf ≠ Br := by omega
          have hBf2 : Bf + 1 ≠ Br := by omega
          have hKeep := Lib.hid (fun (X Y : World) (t : Turns (fun k => k = Br) X Y) (h1 : X.cell? ⟨b2, off2 + i * 8, none⟩ = some (.int .u64 z) ∧ X.cell? ⟨Bf, 0, none⟩ = some (.slice (some ⟨Br, 0, none⟩) n n) ∧ X.cell? ⟨Bf + 1, i, none⟩ = some (.bool bb) ∧ Bf + 1 < X.heap.size ∧ b2 < X.heap.size) => by
            obtain ⟨a1, a2, a3, a4, a5⟩ := h1
            have q : ∀ (b o : Nat), b ≠ Br → b < X.heap.size → Y.cell? ⟨b, o, none⟩ = X.cell? ⟨b, o, none⟩ := fun b o hb hx => by
              unfold World.cell?
              simp only
              rw [t.block b hx hb]
            exact (show Y.cell? ⟨b2, off2 + i * 8, none⟩ = some (.int .u64 z) ∧ Y.cell? ⟨Bf, 0, none⟩ = some (.slice (some ⟨Br, 0, none⟩) n n) ∧ Y.cell? ⟨Bf + 1, i, none⟩ = some (.bool bb) ∧ Bf + 1 < Y.heap.size ∧ b2 < Y.heap.size from
              ⟨(q _ _ hb2f a5).trans a1, (q _ _ hBf1 (by omega)).trans a2, (q _ _ hBf2 a4).trans a3, Nat.lt_of_lt_of_le a4 t.size, Nat.lt_of_lt_of_le a5 t.size⟩))
          have hlg := Row.lt hFG4
          have HK4 := Lib.hid (show w4.cell? ⟨b2, off2 + i * 8, none⟩ = some (.int .u64 z) ∧ w4.cell? ⟨Bf, 0, none⟩ = some (.slice (some ⟨Br, 0, none⟩) n n) ∧ w4.cell? ⟨Bf + 1, i, none⟩ = some (.bool bb) ∧ Bf + 1 < w4.heap.size ∧ b2 < w4.heap.size from ⟨cu, cf, cv, hlg, by omega⟩)
          have HM := Lib.hid (And.intro hnext (And.intro hT hRR))
          clear hnext hT hRR hRe R63 RR3 RF3 hFG B3 hFe R64 RF4 hFG4 B4 hA4 hcs hz hbb hb2f hBf1 hBf2
          go_wp2
          refine K.region_tail 8 (by kernel_rfl) (by kernel_rfl) ?_
          simp only [List.take_succ_cons, List.take_zero, List.drop_succ_cons, List.drop_zero]
          iterate 9 (first
            | ((with_reducible refine wpStill_step (fun KK hKK => ?_))
               first
                 | ((with_reducible refine K.still_else ?_ (K.Puts.mk' _) ?_)
                    (first | rfl | (simp [Region.wanted, yielded]; done))
                    (with_reducible refine hKK _ ?_))
                 | ((with_reducible refine K.still_if ?_ ?_)
                    (first | rfl | (simp [Region.wanted, yielded]; done))
                    apply K.still_val
                    · go_simp; (try go_ints); exact K.Gives.mk' _ _
                    · go_simp; exact K.Puts.mk' _
                    (with_reducible refine hKK _ ?_))
               clear hKK KK)
            | skip)
          refine wpStill_nil ?_
          go_wp2_with fail
          refine (noteN hRl 1 (decide (1 < z)) h7 _ (show RRow w4.drew Br R from Row.drew HM.out.2.2)).mono ?_
          rintro e w5 ⟨rfl, hR5, ht5⟩
          have K5 := hKeep.out _ _ ((Turns.refl _ w4).drew.trans ht5) HK4.out
          have HK5 := Lib.hid K5
          obtain ⟨a1, a2, a3, a4, a5⟩ := K5
          obtain ⟨R1, hR1⟩ : ∃ R1, noteR R i 1 (decide (1 < z)) = R1 := ⟨_, rfl⟩
          have hR1l : R1.length = n := by rw [← hR1, noteR_length]; exact hRl
          rw [hR1] at hR5
          have H5 := Lib.hid (And.intro hR1 (And.intro hR5 (HM.out.2.1.trans ((Turns.refl _ w4).drew.trans ht5))))
          clear hR1 hR5 ht5 cu cv cf
          have E0 := Lib.hid (show ∃ q, (z == 0) = q from ⟨_, rfl⟩)
          obtain ⟨p, e1⟩ : ∃ p, (z == 1) = p := ⟨_, rfl⟩
          have HP1 := Lib.hid e1
          cases p
          all_goals
            go_wp2
            refine K.region_tail 14 (by kernel_rfl) (by kernel_rfl) ?_
            simp only [List.take_succ_cons, List.take_zero, List.drop_succ_cons, List.drop_zero]
            iterate 15 (first
              | ((with_reducible refine wpStill_step (fun KK hKK => ?_))
                 first
                   | ((with_reducible refine K.still_else ?_ (K.Puts.mk' _) ?_)
                      (first | rfl | (simp [Region.wanted, yielded]; done))
                      (with_reducible refine hKK _ ?_))
                   | ((with_reducible refine K.still_if ?_ ?_)
                      (first | rfl | (simp [Region.wanted, yielded]; done))
                      apply K.still_val
                      · go_simp; (try go_ints); exact K.Gives.mk' _ _
                      · go_simp; exact K.Puts.mk' _
                      (with_reducible refine hKK _ ?_))
                 clear hKK KK)
              | skip)
            refine wpStill_nil ?_
            go_wp2_with fail
            refine (noteN hR1l 2 _ h7 _ (show RRow w5.drew Br R1 from Row.drew H5.out.2.1)).mono ?_
            rintro e w6 ⟨rfl, hR6, ht6⟩
            have K6 := hKeep.out _ _ ((Turns.refl _ w5).drew.trans ht6) HK5.out
            clear a1 a2 a3 a4 a5
            obtain ⟨a1, a2, a3, a4, a5⟩ := K6
            obtain ⟨R2, hR2⟩ : ∃ R2, noteR R1 i 2 (z == 1 && bb) = R2 := ⟨_, rfl⟩
            have hR6 : RRow w6 Br R2 := by rw [← hR2, e1]; exact hR6
            have hR2l : R2.length = n := by rw [← hR2, noteR_length]; exact hR1l
            have H6 := Lib.hid (And.intro hR2 (And.intro hR6 (H5.out.2.2.trans ((Turns.refl _ w5).drew.trans ht6))))
            clear hR2 hR6 ht6 e1
            obtain ⟨q, e0⟩ := E0.out
            have HQ1 := Lib.hid e0
            cases q
            all_goals
              go_wp2
              refine K.region_tail 15 (by kernel_rfl) (by kernel_rfl) ?_
              simp only [List.take_succ_cons, List.take_zero, List.drop_succ_cons, List.drop_zero]
              iterate 16 (first
                | ((with_reducible refine wpStill_step (fun KK hKK => ?_))
                   first
                     | ((with_reducible refine K.still_else ?_ (K.Puts.mk' _) ?_)
                        (first | rfl | (simp [Region.wanted, yielded]; done))
                        (with_reducible refine hKK _ ?_))
                     | ((with_reducible refine K.still_if ?_ ?_)
                        (first | rfl | (simp [Region.wanted, yielded]; done))
                        apply K.still_val
                        · go_simp; (try go_ints); exact K.Gives.mk' _ _
                        · go_simp; exact K.Puts.mk' _
                        (with_reducible refine hKK _ ?_))
                   clear hKK KK)
                | skip)
              refine wpStill_nil ?_
              go_wp2_with fail
              refine (noteN hR2l 3 _ h7 _ (show RRow w6.drew Br R2 from Row.drew H6.out.2.1)).mono ?_
              rintro e w7 ⟨rfl, hR7, ht7⟩
              have hR7 : RRow w7 Br (rulesI n l F (i + 1)) := by
                rw [HM.out.1, H5.out.1, H6.out.1, e0]
                exact hR7
              have H7 := Lib.hid (And.intro hR7 (H6.out.2.2.trans ((Turns.refl _ w6).drew.trans ht7)))
              clear hR7 ht7 e0 a1 a2 a3
              go_wp2
              go_roundw
              case rel => exact ⟨i + 1, by omega, by go_num, H7.out.1, H7.out.2⟩
              case measure => simp [intOf]; omega
        · obtain rfl : i = n := by omega
          have hkb2 : decide ((i : Int) < (i : Int)) = false := by simp
          have HR := Lib.hid (And.intro hRR (And.intro R64 (And.intro B4 hRe)))
          have hsz := RF4.lt
          clear hRR R64 B4 hRe R63 RR3 RF3 hFG B3 hFe RF4 hFG4 hT
          go_wp2_with fail
          obtain ⟨hRR, R64, B4, hRe⟩ := HR.out
          refine (verdictN hRl hn5 w4 hRR).mono ?_
          rintro e w5 ⟨rfl, hb5⟩
          obtain ⟨r, v, q, hag⟩ := Labels.verdict_agg 0 (firstF R R.length 0)
          rw [hag]
          have Hag := Lib.hid (And.intro hag (And.intro hRe H3.out.2.2.2.2.2))
          have RV := R64.below hb5 R64.lt
          have hv0 := RV.get (i := 0) rfl
          have hv1 := RV.get (i := 1) rfl
          have hv2 := RV.get (i := 2) rfl
          have hf0 := RV.free 0
          have hf1 := RV.free 1
          have hf2 := RV.free 2
          simp only [List.getElem_toArray, List.getElem_cons_zero, List.getElem_cons_succ] at hv0 hv1 hv2
          have RZ := Lib.hid (((RV.set 0 (.bool r)).set 1 (.int .u32 v)).set 2 (.int .i64 q))
          have BZ := Lib.hid ((((B4.trans (hb5.mono B4.size)).setCell (p := ⟨w.heap.size + 1, 0, none⟩) (by show w.heap.size ≤ w.heap.size + 1; omega) (.bool r)).setCell (p := ⟨w.heap.size + 1, 1, none⟩) (by show w.heap.size ≤ w.heap.size + 1; omega) (.int .u32 v)).setCell (p := ⟨w.heap.size + 1, 2, none⟩) (by show w.heap.size ≤ w.heap.size + 1; omega) (.int .i64 q))
          clear hRR R64 B4 hRe hag RV hb5
          go_wp2
          refine bodyPost_ret (rind_ver rfl RZ.out) rfl ⟨?_, BZ.out⟩
          rw [Hag.out.2.2, Hag.out.2.1, Hag.out.1]
end Go.Proofs.Ytepljdnhnnpdmaa.Sets
