/-
  The audit of colours: what is noted of a vertex. No condition.
-/
import Derived.Test.YtepljdnhnnpdmaaSets3
set_option linter.unusedVariables false
set_option linter.unusedSimpArgs false
namespace Go.Proofs.Ytepljdnhnnpdmaa.Sets
open Go.RowKit Go.Shelf K Feed Desk Forest Case Rank

def lookC (f : Int × Int) (v z : Int) (y : Nat) : Int × Int := if 63 < z then noteD f v 1 true else noteD f v 3 ((y &&& (2 ^ z.toNat - 1)) != 2 ^ z.toNat - 1)
theorem bne_cast (a b : Nat) : ((a : Int) != (b : Int)) = (a != b) := by
  rw [Bool.eq_iff_iff]; simp only [bne_iff_ne, ne_eq, Int.natCast_inj]
set_option maxRecDepth 100000 in
set_option maxHeartbeats 4000000 in
theorem lookCs (n g rcap Bh Bd Dk : Nat) (rest : List Value) (F : List Nat) (nn kind : Int) (ed sl : Value) (f : Int × Int) (v : Nat) (x : S8) (hv : v < n) (hn : n ≤ 5000) (hF : F.length = n) (hFb : ∀ v, F.getD v 0 < 18446744073709551616) (hBdD : Bd ≠ Dk) (hBhD : Bh ≠ Dk) (hgD : g ≠ Dk) (w : World) (hR : FRow w g F rest)
    (hH : Row w Bh 76 #[.slice (some ⟨g, 0, none⟩) n rcap]) (hBB : Row w Bd 107 #[.pointer (some ⟨Dk, 0, none⟩)]) (hDk : Row w Dk 152 (deskRow nn kind ed sl false f.1 f.2)) :
    Calls Try.prog 91 #[.int .u32 v, .agg (svArr x), .pointer (some ⟨Bd, 0, none⟩), .pointer (some ⟨Bh, 0, none⟩)] w (Cores.LookPost Dk nn kind ed sl (lookC f v (x.at 0) (F.getD v 0)) w) := by
  obtain ⟨y, hy⟩ : ∃ y, F.getD v 0 = y := ⟨_, rfl⟩
  have hyb : y < 18446744073709551616 := hy ▸ hFb v
  have hyv : F[v]? = some y := by rw [← hy, List.getD_eq_getElem?_getD, List.getElem?_eq_getElem (by omega)]; rfl
  rw [hy]
  have r0 := hBB.alloc (.cells (svArr x) 106)
  have r1 := hH.alloc (.cells (svArr x) 106)
  have r2 := Row.new w 106 (svArr x)
  have r3 : FRow _ g F rest := Row.alloc hR (.cells (svArr x) 106)
  have r4 := hDk.alloc (.cells (svArr x) 106)
  have T0 := (Turns.refl (fun k => k = Dk) w).alloc (.cells (svArr x) 106)
  have hzb := x.at_ok 0
  unfold svArr at r0 r1 r2 r3 r4 T0 ⊢
  obtain ⟨z, hz⟩ : ∃ z, x.at 0 = z := ⟨_, rfl⟩
  rw [hz] at r0 r1 r2 r3 r4 T0 hzb ⊢
  obtain ⟨t, ht⟩ : ∃ t : Nat, z = t := ⟨z.toNat, by omega⟩
  subst ht
  obtain ⟨L, hL⟩ : ∃ L, lookC f v t y = L := ⟨_, rfl⟩
  rw [hL]
  unfold lookC at hL
  rw [Int.toNat_natCast] at hL
  have c0 := r0.get (i := 0) rfl
  have c1 := r1.get (i := 0) rfl
  have c2 := r2.get (i := 0) rfl
  have c3 := r3.get hyv
  simp only [List.getElem_toArray, List.getElem_cons_zero] at c0 c1 c2
  have H0 := Lib.hid (And.intro r4 T0)
  have k1 : (0 : Int) ≤ (v : Int) := by omega
  have k2 : (v : Int) < (n : Int) := by omega
  clear hBB hH hR hDk r0 r1 r2 r3 r4 T0 hy hz hFb hyv
  by_cases h1 : (63 : Int) < t
  · rw [if_pos h1] at hL
    have HL := Lib.hid hL
    have t1 : decide ((63 : Int) < t) = true := decide_eq_true h1
    clear hL h1
    go_enter Try.func91, Try.ntmps91
    go_wp2_with fail
    refine (broken Dk nn kind ed sl f v 1 _ _ H0.out.1).mono ?_
    rintro e w1 ⟨rfl, hD1, ht1⟩
    have H3 := Lib.hid (And.intro hD1 (H0.out.2.trans ht1))
    clear hD1 ht1
    go_wp2
    go_end0
    exact ⟨rfl, by rw [← HL.out]; exact H3.out.1, H3.out.2⟩
  · rw [if_neg h1] at hL
    have t1 : decide ((63 : Int) < t) = false := decide_eq_false h1
    have hp : (2 : Nat) ^ t < 18446744073709551616 := by
      have := Nat.pow_lt_pow_right (a := 2) (m := t) (n := 64) (by omega) (by omega)
      simpa using this
    have hp0 : 0 < (2 : Nat) ^ t := Nat.pow_pos (by decide)
    have hsh := wrap_pow t (by omega)
    have hmin : min t 64 = t := by omega
    obtain ⟨m, hm⟩ : ∃ m, 2 ^ t - 1 = m := ⟨_, rfl⟩
    rw [hm] at hL
    obtain ⟨p, hpe⟩ : ∃ p : Nat, 2 ^ t = p := ⟨_, rfl⟩
    rw [hpe] at hp hp0 hsh hm
    have hand := u64_and_nat y m hyb (by omega)
    have hsub : (p : Int) - 1 = m := by omega
    have hw1 : IntKind.u64.wrap ((p : Int) - 1) = m := by rw [hsub]; exact IntWalk.u64_in _ ⟨by omega, by omega⟩
    have hw2 : IntKind.u64.wrap ((m : Nat) : Int) = m := IntWalk.u64_in _ ⟨by omega, by omega⟩
    have hb := bne_cast (y &&& m) m
    obtain ⟨q, hq⟩ : ∃ q, y &&& m = q := ⟨_, rfl⟩
    rw [hq] at hand hb hL
    have HL := Lib.hid hL
    clear hL hq hm hpe hp hp0 h1
    go_enter Try.func91, Try.ntmps91
    go_wp2
    refine K.region_tail 10 (by kernel_rfl) (by kernel_rfl) ?_
    simp only [List.take_succ_cons, List.take_zero, List.drop_succ_cons, List.drop_zero]
    iterate 11 (first
      | ((with_reducible refine wpStill_step (fun KK hKK => ?_))
         first
           | ((with_reducible refine K.still_else ?_ (K.Puts.mk' _) ?_)
              (first | rfl | (simp [Region.wanted, yielded]; done))
              (with_reducible refine hKK _ ?_))
           | ((with_reducible refine K.still_if ?_ ?_)
              (first | rfl | (simp [Region.wanted, yielded]; done))
              apply K.still_val
              · go_simp; (try go_ints); exact K.Gives.mk' _ _
              · go_simp; exact K.Puts.mk' _
              (with_reducible refine hKK _ ?_))
         clear hKK KK)
      | skip)
    refine wpStill_nil ?_
    go_wp2_with fail
    refine (broken Dk nn kind ed sl f v 3 _ _ (Row.drew H0.out.1)).mono ?_
    rintro e w1 ⟨rfl, hD1, ht1⟩
    have H3 := Lib.hid (And.intro hD1 (H0.out.2.drew.trans ht1))
    clear hD1 ht1
    go_wp2
    go_end0
    refine ⟨rfl, ?_, H3.out.2⟩
    have h4 := H3.out.1
    rw [← HL.out]
    simpa [hmin, hsh, hw1, hw2, hand, hb] using h4
end Go.Proofs.Ytepljdnhnnpdmaa.Sets
