/-
  TallyOrder: sums do not hang on order or grouping. No condition.
-/
import Derived.Test.YtbbldcbilnkkdaaDoorModes
import Derived.Test.YtbbldcbilnkkdaaDoorAwake
import Derived.Test.YtbbldcbilnkkdaaDoorOrd
set_option linter.unusedVariables false
set_option linter.unusedSimpArgs false
namespace Go.Proofs.YtbbldcbilnkkdaaDoor.tallyOrder
open Go.ChangeShapes Go.WideShapes Go.ChangeAt Go.RowKit
open Num Tly Ref K Reck Lst

/-! ### The plain law -/
def g (u : Int) : Int := putv 0 u
theorem putv_add (z u : Int) : putv z u = z + g u := by
  unfold g putv
  split <;> omega
def S (l : List Int) : Int := l.foldl putv 0
theorem fold_add : ∀ (l : List Int) (z : Int), l.foldl putv z = z + S l
  | [], z => by simp [S]
  | u :: l, z => by
    show l.foldl putv (putv z u) = z + l.foldl putv (putv 0 u)
    rw [fold_add l (putv z u), fold_add l (putv 0 u), putv_add z u, putv_add 0 u]
    omega
theorem S_cons (u : Int) (l : List Int) : S (u :: l) = g u + S l := by
  show l.foldl putv (putv 0 u) = _
  rw [fold_add]; rfl
theorem S_append (a b : List Int) : S (a ++ b) = S a + S b := by
  unfold S
  rw [List.foldl_append, fold_add b]
  rfl
theorem S_perm {a b : List Int} (h : a.Perm b) : S a = S b := by
  induction h with
  | nil => rfl
  | cons u _ ih => rw [S_cons, S_cons, ih]
  | swap u v l => rw [S_cons, S_cons, S_cons, S_cons]; omega
  | trans _ _ i1 i2 => exact i1.trans i2
theorem fin_good (us : List Int) (h : ∀ u ∈ us, good u = true) : fin us = true := by
  unfold fin
  rw [List.all_eq_true]
  intro u hu
  exact h u hu
theorem addS_good {us : List Int} (h : ∀ u ∈ us, good u = true) : addS 0 us = S us := by unfold addS; rw [fin_good us h]; rfl
theorem addE_good {us : List Int} (h : ∀ u ∈ us, good u = true) : addE us = 0 := by unfold addE; rw [fin_good us h]; rfl
theorem lies_fl {w : World} {B : Nat} {A : Option Addr} {n : Nat} {us : List Int} (h : Lies w B A n (us.map Ref.fl)) : Lies w B A n (us.map Ref.fl) := h
theorem own_nil {w : World} {base n cp : Nat} {e : TypeId} {xs : List Value} (h : w.ownsRow base e 1 (.slice none n cp) n xs) : cp = 0 := by
  obtain ⟨-, ⟨hv, -⟩ | ⟨g, cap, cur, hv, -⟩⟩ := h
  · injection hv
  · injection hv with h1; cases h1
theorem S_one (u : Int) : S [u] = g u := by rw [S_cons]; simp [S]
theorem S_take {os : List Int} {k : Nat} {u : Int} (h : os[k]? = some u) : putv (S (os.take k)) u = S (os.take (k + 1)) := by
  rw [List.take_add_one, h, S_append, putv_add]
  show _ + g u = _ + S [u]
  rw [S_one]
theorem row_zero (w : World) (T : TypeId) : Row (w.alloc (.cells #[.int .u64 0, .int .u64 0, .int .u64 0, .int .u64 0, .int .u64 0, .int .u64 0] T)) w.heap.size T (wv 0) := by
  rw [wv_zero]; exact Row.new w T _
theorem lies_sub {w : World} {B : Nat} {ad : Addr} {n : Nat} {xs : List Value} (h : Lies w B (some ad) n xs) (lo hi : Nat) (hlo : lo ≤ hi) (hhi : hi ≤ n) : Lies w B (some (ad.add lo)) (hi - lo) ((xs.drop lo).take (hi - lo)) := by
  refine ⟨by have := h.1; simp; omega, fun h0 => ?_⟩
  obtain ⟨a', ha, hB, hc⟩ := h.2 (by omega)
  cases ha
  refine ⟨_, rfl, by rw [K.block_add]; exact hB, fun j u hu => ?_⟩
  have h1 := hc (lo + j) u (by
    rw [List.getElem?_take] at hu
    split at hu
    · rw [List.getElem?_drop] at hu; exact hu
    · cases hu)
  rw [show (ad.add lo).add j = ad.add (lo + j) by by_cases hj : j = 0 <;> by_cases hl : lo = 0 <;> simp [Addr.add, hj, hl, Nat.add_assoc]]
  exact h1
theorem size_bound (cut : Int) : 1 ≤ wrap64 (1 + wrap64 ((IntKind.u64.wrap cut).tmod 7)) ∧ wrap64 (1 + wrap64 ((IntKind.u64.wrap cut).tmod 7)) ≤ 7 := by
  have h0 : 0 ≤ IntKind.u64.wrap cut := by simp [IntKind.wrap, IntKind.bits, IntKind.signed]; omega
  generalize IntKind.u64.wrap cut = x at *
  rw [Int.tmod_eq_emod_of_nonneg h0]
  unfold wrap64
  omega
def RelP (g11 : Nat) (w5 : World) (os : List Int) (i : Value) (wr : World) : Prop :=
  ∃ k : Nat, k ≤ os.length ∧ i = .int .i64 k ∧ Row wr g11 26 (wv (S (os.take k))) ∧ Below g11 w5 wr ∧ w5.heap.size ≤ wr.heap.size
def RelC (g14 : Nat) (w7 : World) (os : List Int) (i : Value) (wr : World) : Prop :=
  ∃ k : Int, k ≤ os.length ∧ -7 ≤ k ∧ i = .int .i64 k ∧ Row wr g14 26 (wv (S (os.drop k.toNat))) ∧ Below g14 w7 wr ∧ w7.heap.size ≤ wr.heap.size
set_option maxRecDepth 100000 in
set_option maxHeartbeats 8000000 in
theorem walk (A : Option Addr) (n cap : Nat) (raw : List Int) (hn : n * 4 ≤ 140737488351232) (hu : ∀ u ∈ raw, 0 ≤ u ∧ u < 4294967296) (A2 : Option Addr) (n2 cap2 : Nat) (ps : List Int) (hn2 : n2 ≤ maxLen) (cut : Int) (w : World) (hM : Modes w)
    (hA : Lies w w.heap.size A n (raw.map (Value.int .u32))) (hp : Lies w w.heap.size A2 n2 (ps.map (Value.int .i64))) :
    Calls Tryd.prog 5 #[.slice A n cap, .slice A2 n2 cap2, .int .i64 cut] w fun e w' => e = .returned (.bool true) ∧ Below w.heap.size w w' := by
  have HM := Lib.hid hM
  have HP := Lib.hid hp
  have HL := Lib.hid hA
  have hrl : raw.length = n := by simpa using hA.1
  obtain ⟨us, hus⟩ : ∃ us, us = raw.filter good := ⟨_, rfl⟩
  have hul : us.length ≤ n := by rw [hus, ← hrl]; exact List.length_filter_le _ _
  have hgood : ∀ u ∈ us, good u = true := fun u h => by rw [hus] at h; exact (List.mem_filter.1 h).2
  have hub : ∀ u ∈ us, 0 ≤ u ∧ u < 4294967296 := fun u h => by rw [hus] at h; exact hu u (List.mem_filter.1 h).1
  have hfin := finite A n cap raw hn hu w hA
  rw [← hus] at hfin
  have HFI := Lib.hid hfin
  have HG := Lib.hid (And.intro hgood hub)
  have hnu : us.length * 4 ≤ 140737488351232 := by omega
  clear hM hp hA hfin hus hu hgood hub
  go_enter Tryd.func5, Tryd.ntmps5
  go_wp2_with fail
  refine HFI.out.mono ?_
  rintro e w1 ⟨v1, rfl, hown1, hb1⟩
  obtain ⟨A1, c1, rfl⟩ := own_shape hown1
  have HO1 := Lib.hid hown1
  have hl1 := lies_own hown1
  have HB1 := Lib.hid hb1
  have hflo := floats A1 us.length c1 us hnu HG.out.2 w1 hl1
  have HFL := Lib.hid hflo
  clear hown1 hb1 hl1 hflo HFI
  go_wp2_with fail
  refine HFL.out.mono ?_
  rintro e w2 ⟨v2, rfl, hown2, hb2⟩
  obtain ⟨A3, c3, rfl⟩ := own_shape hown2
  have hl2 := lies_own hown2
  have HB2 := Lib.hid (HB1.out.trans (hb2.mono HB1.out.size))
  have HO2 := Lib.hid (own_below HO1.out hb2)
  have hof := of A3 us.length c3 us (by omega) HG.out.2 w2 hl2
  rw [addS_good HG.out.1, addE_good HG.out.1] at hof
  have HOF := Lib.hid hof
  clear hown2 hb2 hl2 hof HFL HO1 HB1
  go_wp2_with fail
  refine HOF.out.mono ?_
  rintro e w3 ⟨rfl, hb3⟩
  have HB3 := Lib.hid (HB2.out.trans (hb3.mono HB2.out.size))
  have HO3 := Lib.hid (own_below HO2.out hb3)
  have N3 := Lib.hid (Row.new w3 26 (cv [0, 0, 0, 0, 0, 0]))
  have R3 := Lib.hid (N3.out.put (wv (S us)))
  have hb3' := Row.put_below ((Below.refl w3.heap.size w3).alloc (Nat.le_refl _) (.cells (cv [0, 0, 0, 0, 0, 0]) 26)) N3.out (Nat.le_refl _) (wv (S us))
  have HB4 := Lib.hid (HB3.out.trans (hb3'.mono HB3.out.size))
  have HO4 := Lib.hid (own_below HO3.out hb3')
  have HM4 := Lib.hid (HM.out.below HB4.out HM.out.1)
  obtain ⟨g8, hg8⟩ : ∃ x, x = w3.heap.size := ⟨_, rfl⟩
  have hg8B := Lib.hid (show w.heap.size ≤ g8 by rw [hg8]; exact HB3.out.size)
  clear hb3 hb3' HOF HB2 HO2 HO3 HB3
  obtain ⟨w4, hw4⟩ : ∃ x, x = (w3.alloc (.cells (cv [0, 0, 0, 0, 0, 0]) 26)).setRow w3.heap.size (wv (S us)) := ⟨_, rfl⟩
  rw [← hw4] at R3 HB4 HO4 HM4
  go_wp2_with (refine wpList_store_row rfl 26 _ _ rfl (w3.heap.size) _ rfl rfl 26 _ N3.out ?_ ?_ ?_ ?_; kernel_rfl; (first | (rw [wv_size, wv_size]) | kernel_rfl); (first | exact cv_one _ | kernel_rfl))
  rw [show (w3.alloc (.cells #[.int .u64 0, .int .u64 0, .int .u64 0, .int .u64 0, .int .u64 0, .int .u64 0] 26)).setRow w3.heap.size (wv (S us)) = w4 from hw4.symm]
  rw [← hg8]
  rw [← hg8] at R3
  clear hw4 hg8 N3
  have hnl := R3.out.lt
  refine (awake w4 HM4.out).mono ?_
  rintro e w5 ⟨rfl, hb5⟩
  have R5 := Lib.hid (R3.out.below hb5 R3.out.lt)
  have HB5 := Lib.hid (HB4.out.trans (hb5.mono HB4.out.size))
  have ho5 := own_below HO4.out hb5
  have hcp : us.length ≤ c1 ∧ (A1 = none → c1 = 0) := by
    refine ⟨?_, fun h => ?_⟩
    · obtain ⟨A', c', e, h', -⟩ := lies_of_own ho5
      injection e with e1 e2 e3
      omega
    · subst h
      exact own_nil ho5
  have hord := order A1 us.length c1 us hnu hcp.1 hcp.2 w5 (lies_own ho5) A2 n2 cap2 ps hn2 ((HP.out.below HB5.out).more HB5.out.size)
  have HORD := Lib.hid hord
  clear hb5 ho5 hcp hord HM4 HB4 HO4 R3 hnl
  go_wp2_with (go_at_call 17; refine (Reck.num _ _).mono ?_; rintro e w' ⟨rfl, rfl⟩)
  refine HORD.out.mono ?_
  rintro e w6 ⟨v6, os, rfl, hperm, howno, hb6⟩
  obtain ⟨Ao, co, rfl⟩ := own_shape howno
  have R6 := Lib.hid (R5.out.below hb6 R5.out.lt)
  have HB6 := Lib.hid (HB5.out.trans (hb6.mono HB5.out.size))
  have HOS := Lib.hid howno
  have hoslen := hperm.length_eq
  have HPM := Lib.hid hperm
  have hgo : ∀ u ∈ os, good u = true ∧ 0 ≤ u ∧ u < 4294967296 := fun u h => ⟨HG.out.1 u ((hperm.mem_iff).1 h), HG.out.2 u ((hperm.mem_iff).1 h)⟩
  have HGO := Lib.hid hgo
  have hon : (os.length : Int) ≤ 35184372088832 := by omega
  have LO6 := Lib.hid (lies_own howno)
  have hocp : os.length ≤ co ∧ (Ao = none → os.length = 0) := by
    obtain ⟨A', c', e, h', hl'⟩ := lies_of_own howno
    injection e with e1 e2 e3
    refine ⟨by omega, fun h => ?_⟩
    rcases Nat.eq_zero_or_pos os.length with h0 | h0
    · exact h0
    · obtain ⟨ad, ha, _⟩ := hl'.2 h0
      rw [← e1, h] at ha
      cases ha
  have HOC := Lib.hid hocp
  have hg86 := Lib.hid R6.out.lt
  clear hperm howno hb6 hgo hocp HORD R5 HB5 hoslen
  go_wp2
  obtain ⟨g11, hg11⟩ : ∃ x, x = w6.heap.size := ⟨_, rfl⟩
  have HS := Lib.hid (show RelP g11 w6 os (.int .i64 0) (w6.alloc (.cells #[.int .u64 0, .int .u64 0, .int .u64 0, .int .u64 0, .int .u64 0, .int .u64 0] 26)) from
    ⟨0, Nat.zero_le _, rfl, by rw [hg11]; exact row_zero w6 _, by rw [hg11]; exact (Below.refl w6.heap.size w6).alloc (Nat.le_refl _) _, by simp⟩)
  rw [← hg11]
  rw [← hg11] at LO6 hg86
  have hg11B := Lib.hid (show w.heap.size ≤ g11 by rw [hg11]; exact HB6.out.size)
  have hg11N := Lib.hid hg11
  clear hg11
  go_loopw [12] (fun i wr => RelP g11 w6 os i wr) (fun i _ => os.length - (intOf i).toNat)
  case atStart => exact HS.out
  case round =>
    clear HS
    obtain ⟨k, hk, rfl, ha, hl, hgr⟩ := hrel
    rcases Nat.lt_or_ge k os.length with h6 | h6
    · obtain ⟨u, hu'⟩ : ∃ u, os[k]? = some u := ⟨_, List.getElem?_eq_getElem h6⟩
      obtain ⟨ad, rfl, hB, hcell⟩ := (LO6.out.below hl).at_ h6
      have hx := hcell _ (show (u32s os)[k]? = some (.int .u32 u) by simp [u32s, hu'])
      have hub := (HGO.out u (List.mem_of_getElem? hu')).2
      have hst := Lib.hid (S_take hu')
      have hkb : decide ((k : Int) < (os.length : Int)) = true := by simp; omega
      have hlt := ha.lt
      have HA := Lib.hid ha
      have HL1 := Lib.hid hl
      have HGR := Lib.hid hgr
      clear ha hu' hcell hl hgr
      go_wp2_with fail
      refine K.region_tail 5 (by kernel_rfl) (by kernel_rfl) ?_
      simp only [List.take_succ_cons, List.take_zero, List.drop_succ_cons, List.drop_zero]
      iterate 6 (first
        | ((with_reducible refine wpStill_step (fun KK hKK => ?_))
           first
             | ((with_reducible refine K.still_else ?_ (K.Puts.mk' _) ?_)
                (first | rfl | (simp [Region.wanted, yielded]; done))
                (with_reducible refine hKK _ ?_))
             | ((with_reducible refine K.still_if ?_ ?_)
                (first | rfl | (simp [Region.wanted, yielded]; done))
                apply K.still_row 26 _ rfl (g11) rfl 26 _ (0, 0) _ HA.out.drew Tryd.underlying26 rfl (by kernel_rfl)
                · go_simp; exact K.Puts.mk' _
                (with_reducible refine hKK _ ?_))
             | ((with_reducible refine K.still_if ?_ ?_)
                (first | rfl | (simp [Region.wanted, yielded]; done))
                apply K.still_val
                · go_simp; (try go_ints); exact K.Gives.mk' _ _
                · go_simp; exact K.Puts.mk' _
                (with_reducible refine hKK _ ?_))
           clear hKK KK)
        | skip)
      refine wpStill_nil ?_
      go_wp2_with fail
      refine (put_any _ u hub.1 hub.2 _).mono ?_
      rintro e w1 ⟨rfl, k1⟩
      have A1 := Lib.hid (HA.out.drew.below k1 hlt)
      have K1 := Lib.hid (HL1.out.drew.trans (k1.mono (by have := HGR.out; have := hg11N.out; simp; omega)))
      have G1 := Lib.hid k1.size
      clear k1 hx
      go_wp2_with (refine wpList_store_row rfl 26 _ _ rfl (g11) _ rfl rfl 26 _ A1.out ?_ ?_ ?_ ?_; kernel_rfl; (first | (rw [wv_size, wv_size]) | kernel_rfl); (first | exact cv_one _ | kernel_rfl))
      go_roundw
      case rel =>
        refine ⟨k + 1, by omega, by go_num, ?_, Row.put_below K1.out A1.out (Nat.le_refl _) _, ?_⟩
        · rw [← hst.out]; exact A1.out.put _
        · have := HGR.out; have := G1.out; simp at *; omega
      case measure => simp [intOf]; omega
    · have hkl : k = os.length := by omega
      subst hkl
      rw [List.take_length] at ha
      obtain ⟨wL, hwL⟩ : ∃ wL, wL = wr := ⟨_, rfl⟩
      subst hwL
      have RA := Lib.hid (ha)
      have RU := Lib.hid (R6.out.below hl hg86)
      have HBL := Lib.hid (HB6.out.trans (hl.mono hg11B.out))
      have LOL := Lib.hid ((LO6.out.below hl).more (show g11 ≤ wL.heap.size from by have := hg11N.out; omega))
      clear ha hl hgr R6 HB6 LO6 hg86
      go_wp2_with fail
      obtain ⟨sz, hsz⟩ : ∃ x, x = wrap64 (1 + wrap64 ((IntKind.u64.wrap cut).tmod 7)) := ⟨_, rfl⟩
      have hsb := size_bound cut
      rw [← hsz] at hsb ⊢
      have HSB := Lib.hid hsb
      clear hsb hsz
      obtain ⟨g14, hg14⟩ : ∃ x, x = wL.heap.size := ⟨_, rfl⟩
      have HS := Lib.hid (show RelC g14 wL os (.int .i64 os.length) (wL.alloc (.cells #[.int .u64 0, .int .u64 0, .int .u64 0, .int .u64 0, .int .u64 0, .int .u64 0] 26)) from
        ⟨os.length, by omega, by omega, rfl, by rw [hg14, show ((os.length : Int)).toNat = os.length by omega, List.drop_length]; exact row_zero wL _, by rw [hg14]; exact (Below.refl wL.heap.size wL).alloc (Nat.le_refl _) _, by simp⟩)
      rw [← hg14]
      rw [← hg14] at LOL
      have hga := RA.out.lt
      have hgu := RU.out.lt
      rw [← hg14] at hga hgu
      have hg14B := Lib.hid (show w.heap.size ≤ g14 by rw [hg14]; exact HBL.out.size)
      have hg14N := Lib.hid hg14
      clear hg14
      go_loopw [15] (fun i wr => RelC g14 wL os i wr) (fun i _ => (intOf i).toNat)
      case atStart => exact HS.out
      case round =>
        clear HS
        obtain ⟨k, hk, hk7, rfl, ha, hl, hgr⟩ := hrel
        rcases Int.lt_or_le 0 k with h6 | h6
        · obtain ⟨kn, rfl⟩ : ∃ kn : Nat, k = kn := ⟨k.toNat, by omega⟩
          obtain ⟨lo, hlo⟩ : ∃ lo : Nat, lo = (max 0 ((kn : Int) - sz)).toNat := ⟨_, rfl⟩
          have hsb := HSB.out
          have hlk : lo < kn := by omega
          have hll := (LOL.out.below hl)
          obtain ⟨ad, hAo, hB, -⟩ := hll.at_ (k := 0) (by omega)
          subst hAo
          have hsub := (lies_sub hll lo kn (by omega) (by omega)).more (show g14 ≤ wr.heap.size from by have := hg14N.out; omega)
          rw [u32s, ← List.map_drop, ← List.map_take] at hsub
          obtain ⟨sb, hsbl⟩ : ∃ x, x = (os.drop lo).take (kn - lo) := ⟨_, rfl⟩
          rw [← hsbl] at hsub
          have hsg : ∀ u ∈ sb, good u = true ∧ 0 ≤ u ∧ u < 4294967296 := fun u hu => by rw [hsbl] at hu; exact HGO.out u (List.mem_of_mem_drop (List.mem_of_mem_take hu))
          have HSG := Lib.hid hsg
          have HSS := Lib.hid (show S sb + S (os.drop kn) = S (os.drop lo) from by
            rw [← S_append, hsbl]
            congr 1
            conv => rhs; rw [← List.take_append_drop (kn - lo) (os.drop lo), List.drop_drop, show lo + (kn - lo) = kn by omega])
          have hfl := floats (some (ad.add lo)) (kn - lo) (co - lo) sb (by omega) (fun u hu => (hsg u hu).2) wr hsub
          rw [hlo] at hfl
          have HFL := Lib.hid hfl
          have HA := Lib.hid ha
          have HL1 := Lib.hid hl
          have HGR := Lib.hid hgr
          have hkp : decide ((kn : Int) > 0) = true := by simp; omega
          have hkp2 : decide (0 < kn) = true := by simp; omega
          have hkp3 : decide ((0 : Int) < (kn : Int)) = true := by simp; omega
          have hcc := HOC.out.1
          have hne : ¬ (co = lo) := by omega
          have hloN := Lib.hid hlo
          have hlo2 : lo = kn - sz.toNat := by omega
          clear ha hl hgr hll hsub hsbl hsg hfl hlo
          go_wp2_with fail
          refine HFL.out.mono ?_
          rintro e w8 ⟨v8, rfl, hown8, hb8⟩
          obtain ⟨A8, c8, rfl⟩ := own_shape hown8
          have hof := of A8 (kn - (max 0 ((kn : Int) - sz)).toNat) c8 sb (by omega) (fun u hu => (HSG.out u hu).2) w8 (lies_own hown8)
          rw [addS_good (fun u hu => (HSG.out u hu).1), addE_good (fun u hu => (HSG.out u hu).1)] at hof
          have HOF := Lib.hid hof
          have HB8 := Lib.hid hb8
          clear hown8 hb8 hof HFL
          go_wp2_with fail
          refine HOF.out.mono ?_
          rintro e w9 ⟨rfl, hb9⟩
          have hg9 := Lib.hid (show wr.heap.size ≤ w9.heap.size from Nat.le_trans HB8.out.size hb9.size)
          have HB9 := Lib.hid (HL1.out.trans ((HB8.out.trans (hb9.mono HB8.out.size)).mono (show g14 ≤ wr.heap.size from by have := hg14N.out; have := HGR.out; omega)))
          have R9 := Lib.hid (HA.out.below (HB8.out.trans (hb9.mono HB8.out.size)) HA.out.lt)
          have N9 := Lib.hid (Row.new w9 26 (cv [0, 0, 0, 0, 0, 0]))
          clear HOF HB8 HA HL1 hb9
          have hr14 := R9.out.lt
          have S9 := Lib.hid ((R9.out.alloc (.cells (cv [0, 0, 0, 0, 0, 0]) 26)).put_other (b' := w9.heap.size) (by omega) (wv (S sb)))
          have T9 := Lib.hid (N9.out.put (wv (S sb)))
          go_wp2_with (first | (refine wpList_store_row rfl 26 _ _ rfl (w9.heap.size) _ rfl rfl 26 _ N9.out ?_ ?_ ?_ ?_; kernel_rfl; (first | (rw [wv_size, wv_size]) | kernel_rfl); (first | exact cv_one _ | kernel_rfl)) | (refine wpList_load_row rfl 26 _ rfl (w9.heap.size) rfl 26 _ (0, 0) _ T9.out Tryd.underlying26 rfl (by kernel_rfl) ?_) | (refine wpList_load_row rfl 26 _ rfl (g14) rfl 26 _ (0, 0) _ S9.out Tryd.underlying26 rfl (by kernel_rfl) ?_) | (go_at_call 17; refine (Reck.num _ _).mono ?_; rintro e w' ⟨rfl, rfl⟩))
          have hg149 : g14 ≤ w9.heap.size := by have := hg9.out; have := HGR.out; have := hg14N.out; omega
          have hbb := Row.put_below (HB9.out.alloc hg149 (.cells (cv [0, 0, 0, 0, 0, 0]) 26)) N9.out hg149 (wv (S sb))
          refine (merge (S sb) (S (os.drop kn)) _).mono ?_
          rintro e w10 ⟨rfl, hb10⟩
          rw [HSS.out]
          have R10 := Lib.hid (S9.out.below hb10 S9.out.lt)
          have B10 := Lib.hid (hbb.trans (hb10.mono (Nat.le_of_lt S9.out.lt)))
          have G10 := Lib.hid hb10.size
          clear hb10 hbb
          go_wp2_with (refine wpList_store_row rfl 26 _ _ rfl (g14) _ rfl rfl 26 _ R10.out ?_ ?_ ?_ ?_; kernel_rfl; (first | (rw [wv_size, wv_size]) | kernel_rfl); (first | exact cv_one _ | kernel_rfl))
          go_roundw
          case rel =>
            refine ⟨(kn : Int) - sz, by omega, by omega, by go_num, ?_, Row.put_below B10.out R10.out (Nat.le_refl _) _, ?_⟩
            · rw [show ((kn : Int) - sz).toNat = kn - sz.toNat by omega]; exact R10.out.put _
            · have := G10.out; have := hg149; have := hg14N.out; simp at *; omega
          case measure => simp [intOf]; omega
        · have hz : k.toNat = 0 := by omega
          rw [hz, List.drop_zero] at ha
          have hkp : decide (k > 0) = false := by simp; omega
          have E1 : S os = S us := S_perm HPM.out
          have hra := RA.out.below hl hga
          rw [E1] at ha hra
          have HA := Lib.hid ha
          have RA2 := Lib.hid hra
          have RU2 := Lib.hid (RU.out.below hl hgu)
          have HBZ := Lib.hid (HBL.out.trans (hl.mono hg14B.out))
          have hq : ∀ (W : World), (binOp .eql 26 (.agg (wv (S us))) (.agg (wv (S us)))).run Tryd.prog W = .ok (.bool true) W := fun W => by
            have h := K.eql_ints (P := Tryd.prog) W (t := 26) (e := 22) (n := 6) (k := .u64) (by kernel_rfl) (by kernel_rfl) (by kernel_rfl) (digs 18446744073709551616 (S us) 6) (digs 18446744073709551616 (S us) 6) (digs_length _ _ _) (digs_length _ _ _)
            rw [beq_self_eq_true] at h
            exact h
          clear ha hra hl hgr E1
          obtain ⟨b0, b1, b2, b3, b4, b5, hq6⟩ := lit6 (S us)
          rw [hq6] at HA RA2 RU2 hq
          have hcU := fun o => row_cell RU2.out o
          have hcH := fun o => row_cell HA.out o
          clear hq6
          go_wp2_with (first | (refine wpList_load_row rfl 26 _ rfl (g8) rfl 26 _ (0, 0) _ RU2.out Tryd.underlying26 rfl (by kernel_rfl) ?_) | (refine wpList_load_row rfl 26 _ rfl (g11) rfl 26 _ (0, 0) _ RA2.out Tryd.underlying26 rfl (by kernel_rfl) ?_) | (refine wpList_load_row rfl 26 _ rfl (g14) rfl 26 _ (0, 0) _ HA.out Tryd.underlying26 rfl (by kernel_rfl) ?_))
          go_ret
          exact ⟨rfl, HBZ.out⟩
theorem bytesU : Tryd.prog.bytesOf 25 = 4 := by kernel_rfl
theorem bytesI : Tryd.prog.bytesOf 3 = 8 := by kernel_rfl
theorem reach_u {H : Type} {d0 d1 d2 : DataW H} {n cap : Nat}
    (hsz : (DataW.weightsEach Tryd.prog [36, 52, 3] [d0, d1, d2]).all (· ≤ reachBytes) = true) (hc : d0 = .nil ∧ cap = 0 ∨ ∃ xs ys, d0 = .slice xs ys ∧ xs.length + ys.length = cap) (hn : n ≤ cap) : n * 4 ≤ 140737488351232 := by
  rcases hc with ⟨rfl, h⟩ | ⟨xs, ys, rfl, h⟩
  · omega
  · have := sized_slice hsz (j := 0) (t := 36) (e := 25) rfl rfl Tryd.underlying36
    rw [bytesU] at this
    unfold reachBytes at this
    omega
theorem reach_i {H : Type} {d0 d1 d2 : DataW H} {n cap : Nat}
    (hsz : (DataW.weightsEach Tryd.prog [36, 52, 3] [d0, d1, d2]).all (· ≤ reachBytes) = true) (hc : d1 = .nil ∧ cap = 0 ∨ ∃ xs ys, d1 = .slice xs ys ∧ xs.length + ys.length = cap) (hn : n ≤ cap) : n ≤ maxLen := by
  rcases hc with ⟨rfl, h⟩ | ⟨xs, ys, rfl, h⟩
  · unfold maxLen; omega
  · have := sized_slice hsz (j := 1) (t := 52) (e := 3) rfl rfl Tryd.underlying52
    rw [bytesI] at this
    unfold reachBytes at this
    unfold maxLen
    omega
def laid1 {H : Type} : List (String × DataW H) := [("sluice/tally.modes", Rows.laid_sluice_tally_modes)]
def laidKinds1 : List LaidKind := [.data]
theorem own : ownKnob Tryd.prog.godebug = none := by kernel_rfl
theorem door_met (os : Os) (args : Array Value) : laidMetH Tryd.prog laid1 ((World.doorLaid Tryd.prog 400 os).forCall (fun _ _ => 0) ⟨#[], args, []⟩).memory :=
  laidMetH_of_parts3 (fuel := 8) (laidMet_of_run' 8 (by kernel_rfl) (by kernel_rfl)) (by kernel_rfl) (by kernel_rfl)
set_option maxRecDepth 100000 in
theorem lifted (os : Os) (started : os.Started) (H : Type) (enc : TypeId × Value → H) :
    ReturnsInHanded {} Tryd.checked os 5 .any (fun w args => (Rows.tallyOrderSpec.pre enc Tryd.prog Tryd.f5 [] false w args ∧ laidMetH Tryd.prog laid1 w) ∧ sizedMet enc Tryd.prog Tryd.f5 (OpenSpec.ofChange Rows.tallyOrderSpec) false w args)
      (Rows.tallyOrderSpec.post enc Tryd.prog Tryd.f5 false true false false) := by
  refine returnsInHanded_of_change_and (C := Tryd.checked) (X := fun w _ => laidMetH Tryd.prog laid1 w) (fun _ _ _ hh h => h.of_heap hh) own started (by kernel_rfl) Tryd.func5
    (ChangeSpec.witness_shaped (enc := enc) (C := Tryd.checked) (os := os) (X := fun w _ => laidMetH Tryd.prog laid1 w) false (World.doorLaid Tryd.prog 400 os) #[.slice none 0 0, .slice none 0 0, .int .i64 0] 8 rfl (World.shaped_of_RefB (by kernel_rfl) (by kernel_rfl)) (by kernel_rfl) (by kernel_rfl) (by kernel_rfl) (door_met os _)) ?_
  intro W base args ds gs before hval0 hW hcnd hsz0 hL _
  have hsz : (DataW.weightsEach Tryd.prog (Tryd.f5.params.toList ++ Rows.tallyOrderSpec.plain.varTypes Tryd.prog) (ds ++ gs)).all (· ≤ reachBytes) = true := hsz0
  have hval : ∀ (j : Nat) t v, Tryd.f5.params[j]? = some t → args[j]? = some v → Value.okWide Tryd.prog W .any base t v := hval0
  have hW' := hW
  obtain ⟨p, q, hA0, hV, rfl, hfz, hnd⟩ := hW
  have hA : DataW.TrodAll enc Tryd.prog W 0 (fun _ => true) true Tryd.f5.params.toList args.toList ds p := hA0
  rw [Tryd.params5] at hA hval hsz
  obtain ⟨v0, vs0, d0, ds0, p0, q0, hargs, rfl, rfl, h0, r0⟩ := trodAll_cons hA
  obtain ⟨v1, vs1, d1, ds1, p1, q1, rfl, rfl, rfl, h1, r1⟩ := trodAll_cons r0
  obtain ⟨v2, vs2, d2, ds2, p2, q2, rfl, rfl, rfl, h2, r2⟩ := trodAll_cons r1
  obtain ⟨rfl, rfl, rfl⟩ := trodAll_nil r2
  obtain rfl : args = #[v0, v1, v2] := by cases args; simp_all
  obtain ⟨rfl, rfl⟩ := trodVars_none hV
  have hlt : ∀ x ∈ p0 ++ p1 ++ p2, x.block < W.heap.size := fun x hx => hW'.lt x (by simpa using hx)
  have k0 := h0
  have k1 := h1
  obtain ⟨a2, rfl, rfl, rfl, w2⟩ := open_int Tryd.underlying3 (hval 2 3 v2 rfl rfl) h2
  obtain ⟨A, n, cap, us, rfl, hus, hn, hcap, hwf, hlies, len', hcase⟩ := K.open_nums (k := .u32) Tryd.underlying36 Tryd.underlying25 (by kernel_rfl) (hval 0 36 v0 rfl rfl) h0
  obtain ⟨A', n', cap', us', rfl, hus', hn', hcap', hwf', hlies', len2', hcase'⟩ := K.open_nums (k := .i64) Tryd.underlying52 Tryd.underlying3 (by kernel_rfl) (hval 1 52 v1 rfl rfl) h1
  refine (walk _ _ _ _ (reach_u hsz hcase hn) (fun u hu => by have := bounds_u32 (hwf u hu); omega) _ _ _ _ (reach_i hsz hcase' hn') _ W (Laid.modes_of hL) hlies hlies').mono fun e W' ⟨he, bel⟩ => ?_
  subst he
  exact ⟨_, rfl, _, _, _, [], _, [], hW', trodAll_mk1 (shut_bool Tryd.underlying4 _), (trodAll_cons_mk (Below.trod (by kernel_rfl) (by kernel_rfl) (of_decide_eq_true (by kernel_rfl)) k0 bel (fun x hx => hlt x (by simp [hx]))) (trodAll_cons_mk (Below.trod (by kernel_rfl) (by kernel_rfl) (of_decide_eq_true (by kernel_rfl)) k1 bel (fun x hx => hlt x (by simp [hx]))) (trodAll_cons_mk (shut_int Tryd.underlying3 w2) trodAll_mk0))), rfl, bel.frame _, fun h => by cases h⟩
theorem over : Rows.TallyOrderSaid :=
  OpenClaim.holds_of_wide 5 Tryd.f5 rfl rfl rfl rfl rfl rfl rfl ⟨rfl, rfl, rfl, rfl, rfl⟩ rfl rfl rfl rfl rfl (by kernel_rfl) Tryd.func5 (by kernel_rfl)
    (of_decide_eq_true (by kernel_rfl)) (by unfold Func.isWrapper; first | (rw [if_pos (by decide +kernel)]; kernel_rfl) | (rw [if_neg (by decide +kernel)]; exact ⟨rfl, rfl⟩))
    (fun os started H enc _ => lifted os started H enc)
/-- The tied card. -/
theorem proved : Rows.TallyOrderCardSaid :=
  Claim7.holds_tied_plain_at .later [] laidKinds1 true Rows.tallyOrderCard.stood.harness false
    over (fun _ h => by cases h) (by kernel_rfl) (fun _ h => by cases h) tallyOrder_row_tie rfl ⟨rfl, rfl⟩ (by kernel_rfl) rfl
    (fun f fn hf hfn => by
      obtain rfl : f = 5 := Option.some.inj ((show Tryd.prog.funcNamed "sluice/sluicelaw02.TallyOrder" = some 5 by kernel_rfl).symm.trans hf) |>.symm
      obtain rfl : fn = Tryd.f5 := (Option.some.inj (Tryd.func5.symm.trans hfn)).symm
      exact ⟨by kernel_rfl, fun j t ht => by
        rw [Tryd.params5] at ht
        have hm : t ∈ [36, 52, 3] := by simpa using Array.mem_of_getElem? ht
        have hall : ([36, 52, 3].all fun u => !Tryd.prog.wantsStandIn u) = true := by kernel_rfl
        exact (show Tryd.prog.wantsStandIn t = false by simpa using List.all_eq_true.1 hall t hm)⟩)
    (by kernel_rfl)
#print axioms proved
end Go.Proofs.YtbbldcbilnkkdaaDoor.tallyOrder
