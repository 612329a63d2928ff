/-
  The audits of sets and of colours: what is noted of a vertex. No condition.
-/
import Derived.Test.YtepljdnhnnpdmaaSets
set_option linter.unusedVariables false
set_option linter.unusedSimpArgs false
namespace Go.Proofs.Ytepljdnhnnpdmaa.Sets
open Go.RowKit Go.Shelf K Feed Desk Forest Case Rank

/-- What is noted of a vertex. -/
def lookI (f : Int × Int) (v z y : Int) : Int × Int := noteD (noteD (noteD f v 1 (decide (1 < z))) v 2 (z == 1 && y == 1)) v 3 (z == 0 && y == 0)
set_option maxRecDepth 100000 in
set_option maxHeartbeats 4000000 in
theorem lookIs (n g rcap Bh Bd Dk : Nat) (rest : List Value) (F : List Nat) (nn kind : Int) (ed sl : Value) (f : Int × Int) (v : Nat) (x : S8) (hv : v < n) (hn : n ≤ 5000) (hF : F.length = n) (hBdD : Bd ≠ Dk) (hBhD : Bh ≠ Dk) (hgD : g ≠ Dk) (w : World) (hR : FRow w g F rest)
    (hH : Row w Bh 76 #[.slice (some ⟨g, 0, none⟩) n rcap]) (hBB : Row w Bd 107 #[.pointer (some ⟨Dk, 0, none⟩)]) (hDk : Row w Dk 152 (deskRow nn kind ed sl false f.1 f.2)) :
    Calls Try.prog 88 #[.int .u32 v, .agg (svArr x), .pointer (some ⟨Bd, 0, none⟩), .pointer (some ⟨Bh, 0, none⟩)] w (Cores.LookPost Dk nn kind ed sl (lookI f v (x.at 0) ((F.getD v 0 : Nat) : Int)) w) := by
  obtain ⟨y, hy⟩ : ∃ y, F.getD v 0 = y := ⟨_, rfl⟩
  have hyv : F[v]? = some y := by rw [← hy, List.getD_eq_getElem?_getD, List.getElem?_eq_getElem (by omega)]; rfl
  rw [hy]
  have r0 := hBB.alloc (.cells (svArr x) 106)
  have r1 := hH.alloc (.cells (svArr x) 106)
  have r2 := Row.new w 106 (svArr x)
  have r3 : FRow _ g F rest := Row.alloc hR (.cells (svArr x) 106)
  have r4 := hDk.alloc (.cells (svArr x) 106)
  have T0 := (Turns.refl (fun k => k = Dk) w).alloc (.cells (svArr x) 106)
  have hXD : w.heap.size ≠ Dk := fun e => by have := hDk.lt; omega
  unfold svArr at r0 r1 r2 r3 r4 T0 ⊢
  obtain ⟨z, hz⟩ : ∃ z, x.at 0 = z := ⟨_, rfl⟩
  rw [hz] at r0 r1 r2 r3 r4 T0 ⊢
  obtain ⟨L, hL⟩ : ∃ L, lookI f v z y = L := ⟨_, rfl⟩
  rw [hL]
  have HL := Lib.hid hL
  have c0 := r0.get (i := 0) rfl
  have c1 := r1.get (i := 0) rfl
  have c2 := r2.get (i := 0) rfl
  have c3 := r3.get hyv
  simp only [List.getElem_toArray, List.getElem_cons_zero] at c0 c1 c2
  have H0 := Lib.hid (And.intro r0 (And.intro r1 (And.intro r2 (And.intro r3 (And.intro r4 T0)))))
  clear hBB hH hR hDk r0 r1 r2 r3 r4 T0 hy hz hL
  go_enter Try.func88, Try.ntmps88
  go_wp2_with fail
  obtain ⟨r0, r1, r2, r3, r4, T0⟩ := H0.out
  refine (broken Dk nn kind ed sl f v 1 _ _ r4).mono ?_
  rintro e w1 ⟨rfl, hD1, ht1⟩
  obtain ⟨f1, hf1⟩ : ∃ f1, noteD f v 1 (decide (1 < z)) = f1 := ⟨_, rfl⟩
  rw [hf1] at hD1
  have HF1 := Lib.hid hf1
  clear hf1
  have q0 := ht1.row r0 hBdD
  have q1 := ht1.row r1 hBhD
  have q2 := ht1.row r2 hXD
  have q3 : FRow w1 g F rest := ht1.row r3 hgD
  have T1 := T0.trans ht1
  clear c0 c1 c2 c3
  have c0 := q0.get (i := 0) rfl
  have c1 := q1.get (i := 0) rfl
  have c2 := q2.get (i := 0) rfl
  have c3 := q3.get hyv
  simp only [List.getElem_toArray, List.getElem_cons_zero] at c0 c1 c2
  have H1 := Lib.hid (And.intro q0 (And.intro q1 (And.intro q2 (And.intro q3 (And.intro hD1 T1)))))
  clear r0 r1 r2 r3 r4 T0 ht1 q0 q1 q2 q3 hD1 T1
  have k1 : (0 : Int) ≤ (v : Int) := by omega
  have k2 : (v : Int) < (n : Int) := by omega
  have E0 := Lib.hid (show ∃ q, (z == 0) = q from ⟨_, rfl⟩)
  obtain ⟨p, e1⟩ : ∃ p, (z == 1) = p := ⟨_, rfl⟩
  cases p
  all_goals
    go_wp2
    refine K.region_tail 12 (by kernel_rfl) (by kernel_rfl) ?_
    simp only [List.take_succ_cons, List.take_zero, List.drop_succ_cons, List.drop_zero]
    iterate 13 (first
      | ((with_reducible refine wpStill_step (fun KK hKK => ?_))
         first
           | ((with_reducible refine K.still_else ?_ (K.Puts.mk' _) ?_)
              (first | rfl | (simp [Region.wanted, yielded]; done))
              (with_reducible refine hKK _ ?_))
           | ((with_reducible refine K.still_if ?_ ?_)
              (first | rfl | (simp [Region.wanted, yielded]; done))
              apply K.still_val
              · go_simp; (try go_ints); exact K.Gives.mk' _ _
              · go_simp; exact K.Puts.mk' _
              (with_reducible refine hKK _ ?_))
         clear hKK KK)
      | skip)
    refine wpStill_nil ?_
    go_wp2_with fail
    obtain ⟨q0, q1, q2, q3, hD1, T1⟩ := H1.out
    refine (broken Dk nn kind ed sl f1 v 2 _ _ (Row.drew hD1)).mono ?_
    rintro e w2 ⟨rfl, hD2, ht2⟩
    obtain ⟨f2, hf2⟩ : ∃ f2, noteD f1 v 2 (z == 1 && (y : Int) == 1) = f2 := ⟨_, rfl⟩
    have hD2 : Row w2 Dk 152 (deskRow nn kind ed sl false f2.1 f2.2) := by
      rw [← hf2, e1]; exact hD2
    have HF2 := Lib.hid hf2
    clear hf2
    have p0 := ht2.row q0.drew hBdD
    have p1 := ht2.row q1.drew hBhD
    have p2 := ht2.row q2.drew hXD
    have p3 : FRow w2 g F rest := ht2.row (Row.drew q3) hgD
    have T2 := T1.drew.trans ht2
    clear c0 c1 c2 c3
    have c0 := p0.get (i := 0) rfl
    have c1 := p1.get (i := 0) rfl
    have c2 := p2.get (i := 0) rfl
    have c3 := p3.get hyv
    simp only [List.getElem_toArray, List.getElem_cons_zero] at c0 c1 c2
    have H2 := Lib.hid (And.intro p0 (And.intro p1 (And.intro p2 (And.intro p3 (And.intro hD2 T2)))))
    clear q0 q1 q2 q3 hD1 T1 p0 p1 p2 p3 hD2 T2 ht2
    obtain ⟨q, e0⟩ := E0.out
    clear e1
    cases q
    all_goals
     go_wp2
     refine K.region_tail 12 (by kernel_rfl) (by kernel_rfl) ?_
     simp only [List.take_succ_cons, List.take_zero, List.drop_succ_cons, List.drop_zero]
     iterate 13 (first
       | ((with_reducible refine wpStill_step (fun KK hKK => ?_))
          first
            | ((with_reducible refine K.still_else ?_ (K.Puts.mk' _) ?_)
               (first | rfl | (simp [Region.wanted, yielded]; done))
               (with_reducible refine hKK _ ?_))
            | ((with_reducible refine K.still_if ?_ ?_)
               (first | rfl | (simp [Region.wanted, yielded]; done))
               apply K.still_val
               · go_simp; (try go_ints); exact K.Gives.mk' _ _
               · go_simp; exact K.Puts.mk' _
               (with_reducible refine hKK _ ?_))
          clear hKK KK)
       | skip)
     refine wpStill_nil ?_
     go_wp2_with fail
     obtain ⟨q0, q1, q2, q3, hD1, T1⟩ := H2.out
     refine (broken Dk nn kind ed sl f2 v 3 _ _ (Row.drew hD1)).mono ?_
     rintro e w3 ⟨rfl, hD3, ht3⟩
     have H3 := Lib.hid (And.intro hD3 (T1.drew.trans ht3))
     clear q0 q1 q2 q3 hD1 T1 hD3 ht3
     go_wp2
     go_end0
     refine ⟨rfl, ?_, H3.out.2⟩
     have h4 := H3.out.1
     rw [← HL.out]
     unfold lookI
     rw [HF1.out, HF2.out, e0]
     exact h4
end Go.Proofs.Ytepljdnhnnpdmaa.Sets
