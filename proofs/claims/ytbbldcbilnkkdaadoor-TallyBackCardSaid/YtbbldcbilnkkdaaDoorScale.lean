/-
  Reading a sum's text: the units of digits times a power of ten (scaled). No condition.
-/
import Derived.Test.YtbbldcbilnkkdaaDoorDecT
import Derived.Test.YtbbldcbilnkkdaaDoorWide
set_option linter.unusedVariables false
set_option linter.unusedSimpArgs false
namespace Go.Proofs.YtbbldcbilnkkdaaDoor.Parse
open Go.RowKit Go.ChangeShapes Num Tly Ref K Reck Wide

/-- The units, whether they are a whole number below 2^384. -/
def scY (D p : Int) : Int := D / 5 ^ (-p).toNat * 10 ^ p.toNat * 2 ^ (149 - (-p).toNat)
def scV (l : List UInt8) (p : Int) : Int × Bool :=
  if 80 < (l.length : Int) + p ∨ p < -149 then (0, false)
  else if nval l % 5 ^ (-p).toNat ≠ 0 then (0, false)
  else if scY (nval l) p < 18446744073709551616 ^ 6 then (scY (nval l) p, true) else (0, false)
theorem nval_nonneg (l : List UInt8) (h : AllDig l) : 0 ≤ nval l := by
  have := nval_bound l h l.length (Nat.le_refl _)
  rw [List.take_of_length_le (Nat.le_refl _)] at this
  exact this.1
def forty : Array Value := Array.replicate 40 (.int .u64 0)
theorem make40 (W : World) : (Instr.makeSlice 119 (.int .i64 0) (.int .i64 40)).run Tryd.prog W = .ok (.slice (some ⟨W.heap.size, 0, none⟩) 0 40) (W.alloc (.cells forty 22)) := by kernel_rfl
theorem wid_start (W : World) : Wid (W.alloc (.cells forty 22)) W.heap.size (.slice (some ⟨W.heap.size, 0, none⟩) 0 40) 0 0 :=
  ⟨0, 40, Nat.le_refl _, rfl, by decide, by decide, ⟨forty, Row.new _ _ _, by decide, by decide, rfl⟩, Int.le_refl _, by decide, Or.inl rfl⟩
theorem Near.refl (g : Nat) (w : World) : Near g w g := Or.inl rfl
theorem Near.on {g g' g'' : Nat} {w w' : World} (h : Near g w g') (k : Near g' w' g'') (hs : w.heap.size ≤ w'.heap.size) : Near g w g'' := by
  rcases k with rfl | k
  · exact h
  · exact Or.inr (by omega)
/-- Turning a near block. -/
theorem turn_on {g g' : Nat} {w w' w'' : World} (h : Turn g w w') (n : Near g w g') (hg : g ≤ w.heap.size) (k : Turn g' w' w'') : Turn g w w'' := by
  rcases n with rfl | n
  · exact h.trans k
  · refine ⟨h.1.trans (k.1.mono (by omega)), fun b hb hne => (k.2 b (by have := h.size; omega) (by omega)).trans (h.2 b hb hne)⟩
theorem _root_.Go.Proofs.YtbbldcbilnkkdaaDoor.Wide.Wid.below {w w' : World} {g : Nat} {v : Value} {m : Int} {N : Nat} (h : Wid w g v m N) (hb : Below w.heap.size w w') : Wid w' g v m N := by
  obtain ⟨n, cap, h1, h2, h3, h4, h5, h6⟩ := h
  exact ⟨n, cap, h1, h2, h3, h4, h5.below hb h5.lt, h6⟩
theorem five_step {D : Int} {i : Nat} (h : D % 5 ^ i = 0) : D % 5 ^ (i + 1) = 5 ^ i * (D / 5 ^ i % 5) := by
  have := mod_succ (q := 5) (by decide) D i
  rw [this, h, Int.zero_add]; rfl
theorem five_down {D : Int} {i j : Nat} (h : i ≤ j) (h2 : D % 5 ^ j = 0) : D % 5 ^ i = 0 := by
  have hd : (5 : Int) ^ i ∣ 5 ^ j := ⟨5 ^ (j - i), by rw [← Int.pow_add, Nat.add_sub_cancel' h]⟩
  exact Int.emod_eq_zero_of_dvd (Int.dvd_trans hd (Int.dvd_of_emod_eq_zero h2))
theorem five_div (D : Int) (i : Nat) : D / 5 ^ (i + 1) = D / 5 ^ i / 5 := div_succ (q := 5) (by decide) D i
theorem copied {Y : Int} {n : Nat} (h6 : n ≤ 6) (h0 : 0 ≤ Y) (h1 : Y < 18446744073709551616 ^ n) :
    ((cv [0, 0, 0, 0, 0, 0]).toList.take 0 ++ u64s (digs 18446744073709551616 Y n) ++ (cv [0, 0, 0, 0, 0, 0]).toList.drop (0 + (u64s (digs 18446744073709551616 Y n)).length)).toArray = wv Y := by
  rw [u64s_len, Nat.zero_add, List.take_zero, List.nil_append]
  unfold wv cv u64s
  congr 1
  apply List.ext_getElem?
  intro i
  simp only [List.getElem?_append, List.length_map, digs_length, List.getElem?_map, List.getElem?_drop]
  by_cases hi : i < n
  · rw [if_pos hi, digs_get _ _ hi, digs_get _ _ (show i < 6 by omega)]
  · rw [if_neg hi]
    by_cases h9 : i < 6
    · rw [digs_get _ _ h9, dig_eq_zero (q := 18446744073709551616) (by decide) h0 h1 (by omega), show n + (i - n) = i by omega]
      match i, h9 with
      | 0, _ => rfl
      | 1, _ => rfl
      | 2, _ => rfl
      | 3, _ => rfl
      | 4, _ => rfl
      | 5, _ => rfl
    · rw [List.getElem?_eq_none (by simp; omega), List.getElem?_eq_none (by rw [digs_length]; omega)]
theorem one_u64s (l : List Int) : ∀ v ∈ u64s l, v.oneCell' = true := fun v hv => by obtain ⟨x, -, rfl⟩ := List.mem_map.1 hv; rfl
def Rel1 (w3 : World) (g : Nat) (l : List UInt8) (v i : Value) (wr : World) : Prop :=
  ∃ k : Nat, ∃ g', k ≤ l.length ∧ i = .int .i64 k ∧ Near g w3 g' ∧ Wid wr g' v (nval (l.take k)) k ∧ Turn g w3 wr
def Rel2 (w3 : World) (g : Nat) (D p : Int) (N : Nat) (pw v tw : Value) (wr : World) : Prop :=
  ∃ i : Nat, ∃ g', i ≤ (-p).toNat ∧ pw = .int .i64 (p + i) ∧ tw = .int .i64 (149 - i) ∧ D % 5 ^ i = 0 ∧ Near g w3 g' ∧ Wid wr g' v (D / 5 ^ i) N ∧ Turn g w3 wr
def Rel3 (w3 : World) (g : Nat) (D P : Int) (N : Nat) (pw v : Value) (wr : World) : Prop :=
  ∃ i : Nat, ∃ g', (i : Int) ≤ P ∧ pw = .int .i64 (P - i) ∧ Near g w3 g' ∧ Wid wr g' v (D * 10 ^ i) (N + i) ∧ Turn g w3 wr
def Rel4 (w3 : World) (g : Nat) (D T : Int) (N : Nat) (v tw : Value) (wr : World) : Prop :=
  ∃ i : Nat, ∃ g', (i : Int) ≤ T ∧ tw = .int .i64 (T - i) ∧ Near g w3 g' ∧ Wid wr g' v (D * 2 ^ i) (N + i) ∧ Turn g w3 wr
set_option maxRecDepth 100000 in
set_option maxHeartbeats 4000000 in
theorem scaled (l : List UInt8) (p : Int) (hd : AllDig l) (hl : l.length ≤ 1000) (p0 : -20000 ≤ p) (p1 : p ≤ 20000) (w : World) :
    Calls Tryd.prog 41 #[.string ⟨l.toArray⟩, .int .i64 p] w fun e w' => e = .returned (.tuple #[.agg (wv (scV l p).1), .bool (scV l p).2]) ∧ Below w.heap.size w w' := by
  obtain ⟨S, hS⟩ : ∃ S, S = scV l p := ⟨_, rfl⟩
  rw [← hS]
  unfold scV at hS
  have h1 : (⟨l.toArray⟩ : ByteArray).size = l.length := Lib.size_mk _
  have hcv := conv l
  obtain ⟨t, ht⟩ : ∃ t, t = (⟨l.toArray⟩ : ByteArray) := ⟨_, rfl⟩
  rw [← ht] at h1 hcv ⊢
  have HT := Lib.hid ht
  have HZ := Lib.hid (show Row ((w.alloc (.cells #[Value.int .u64 0, Value.int .u64 0, Value.int .u64 0, Value.int .u64 0, Value.int .u64 0, Value.int .u64 0] 26)).alloc (.cells #[Value.int .u64 0, Value.int .u64 0, Value.int .u64 0, Value.int .u64 0, Value.int .u64 0, Value.int .u64 0] 26)) w.heap.size 26 (cv [0, 0, 0, 0, 0, 0]) from (Row.new w 26 (cv [0, 0, 0, 0, 0, 0])).alloc (.cells (cv [0, 0, 0, 0, 0, 0]) 26))
  have HX := Lib.hid (show Row ((w.alloc (.cells #[Value.int .u64 0, Value.int .u64 0, Value.int .u64 0, Value.int .u64 0, Value.int .u64 0, Value.int .u64 0] 26)).alloc (.cells #[Value.int .u64 0, Value.int .u64 0, Value.int .u64 0, Value.int .u64 0, Value.int .u64 0, Value.int .u64 0] 26)) (w.heap.size + 1) 26 (cv [0, 0, 0, 0, 0, 0]) from Row.at (Row.new (w.alloc (.cells (cv [0, 0, 0, 0, 0, 0]) 26)) 26 (cv [0, 0, 0, 0, 0, 0])) (b' := w.heap.size + 1) (by simp))
  have HB := Lib.hid (((Below.refl w.heap.size w).alloc (Nat.le_refl _) (.cells #[Value.int .u64 0, Value.int .u64 0, Value.int .u64 0, Value.int .u64 0, Value.int .u64 0, Value.int .u64 0] 26)).alloc (by simp) (.cells #[Value.int .u64 0, Value.int .u64 0, Value.int .u64 0, Value.int .u64 0, Value.int .u64 0, Value.int .u64 0] 26))
  clear ht
  by_cases hc : 80 < (l.length : Int) + p ∨ p < -149
  case pos =>
    have HS := Lib.hid (show S = (0, false) by rw [hS, if_pos hc])
    clear hS hcv hd
    have hcc : (80 < (l.length : Int) + p) ∨ (¬ (80 < (l.length : Int) + p) ∧ p < -149) := by omega
    clear hc
    have hlb : (l.length : Int) ≤ 1000 := by omega
    rcases hcc with h | ⟨h, h2⟩
    all_goals
      go_enter Tryd.func41, Tryd.ntmps41
      go_wp2_with (first | (refine wpList_load_row rfl 26 _ rfl (w.heap.size + 1) rfl 26 _ (0, 0) _ HX.out Tryd.underlying26 rfl (by kernel_rfl) ?_) | (refine wpList_store_row rfl 26 _ _ rfl (w.heap.size) _ rfl rfl 26 _ HZ.out ?_ ?_ ?_ ?_; kernel_rfl; (first | (rw [wv_size, wv_size]) | kernel_rfl); (first | exact cv_one _ | kernel_rfl)))
      refine bodyPost_ret (v := .tuple #[.agg (_), .bool false]) (results_two Tryd.results41 _ _ (w.heap.size) 26 _ _ rfl _ rfl (HZ.out.put _) Tryd.underlying26 rfl (by kernel_rfl)) rfl ⟨by rw [HS.out, show wv 0 = cv [0, 0, 0, 0, 0, 0] from wv_zero], Row.put_below HB.out HZ.out (Nat.le_refl _) _⟩
  case neg =>
    have hS2 : S = (if nval l % 5 ^ (-p).toNat ≠ 0 then (0, false) else if scY (nval l) p < 18446744073709551616 ^ 6 then (scY (nval l) p, true) else (0, false)) := by rw [hS, if_neg hc]
    have HS := Lib.hid hS2
    have HP := Lib.hid (show (l.length : Int) + p ≤ 80 ∧ -149 ≤ p by omega)
    have hlb : (l.length : Int) ≤ 1000 := by omega
    have c1 : ¬ (80 < (l.length : Int) + p) := by omega
    have c2 : ¬ (p < -149) := by omega
    have HAD := Lib.hid hd
    have hmk := make40
    have HCV := Lib.hid hcv
    obtain ⟨w2, hw2⟩ : ∃ w2, w2 = (w.alloc (.cells #[Value.int .u64 0, Value.int .u64 0, Value.int .u64 0, Value.int .u64 0, Value.int .u64 0, Value.int .u64 0] 26)).alloc (.cells #[Value.int .u64 0, Value.int .u64 0, Value.int .u64 0, Value.int .u64 0, Value.int .u64 0, Value.int .u64 0] 26) := ⟨_, rfl⟩
    have hs2 : w2.heap.size = w.heap.size + 2 := by rw [hw2]; simp
    rw [← hw2] at HZ HX HB
    have HW2 := Lib.hid hw2
    have HS2 := Lib.hid hs2
    have hcv2 := hcv (w2.alloc (.cells forty 22))
    obtain ⟨w3, hw3⟩ : ∃ w3, w3 = Lib.bytesWorld (w2.alloc (.cells forty 22)) 5 t := ⟨_, rfl⟩
    rw [← hw3] at hcv2
    have hb3 : Below w2.heap.size w2 w3 := by
      rw [hw3, HT.out]; exact conv_below ((Below.refl _ _).alloc (Nat.le_refl _) _) (by simp) l
    have hwid : Wid w3 w2.heap.size (.slice (some ⟨w2.heap.size, 0, none⟩) 0 40) 0 0 := by
      rw [hw3, HT.out]
      exact (wid_start w2).below (conv_below (Below.refl _ _) (Nat.le_refl _) l)
    have hcell : ∀ (j : Nat) (c : UInt8), l[j]? = some c → w3.cell? ⟨w2.heap.size + 1, j, none⟩ = some (.int .u8 c.toNat) := by
      intro j c hj
      have hj2 : j < l.length := (List.getElem?_eq_some_iff.1 hj).1
      have h := Lib.bytesWorld_cell (w2.alloc (.cells forty 22)) 5 t j (by rw [h1]; exact hj2)
      have hc2 : t.data.toList.getD j 0 = c := by rw [HT.out]; show l.getD j 0 = c; rw [List.getD_eq_getElem?_getD, hj]; rfl
      rw [hc2, ← hw3] at h
      simpa using h
    have hsz3 : w3.heap.size = w2.heap.size + 2 := by rw [hw3, Lib.bytesWorld_size]; simp
    have HB3 := Lib.hid hb3
    have HWD := Lib.hid hwid
    have HCE := Lib.hid hcell
    have HS3 := Lib.hid hsz3
    have hsz2 : (w2.alloc (.cells forty 22)).heap.size = w2.heap.size + 1 := by simp
    clear hS hS2 hd hcv hw2 hw3 hb3 hwid hcell hc hsz3 hs2
    go_enter Tryd.func41, Tryd.ntmps41
    go_upto_region 4 with (fail)
    rw [← HW2.out]
    go_wp2
    go_loopw [7, 9, 26] (fun v c i wr => Rel1 w3 w2.heap.size l v i wr) (fun _ _ i _ => l.length - (intOf i).toNat)
    case atStart => exact ⟨0, w2.heap.size, Nat.zero_le _, rfl, Near.refl _ _, HWD.out, Turn.refl _ _⟩
    case round =>
      clear HWD hcv2 hmk
      obtain ⟨k, g, hk, rfl, hnear, hwid, hT⟩ := hrel
      rcases Nat.lt_or_ge k l.length with hlt | hge
      · obtain ⟨c, hcd⟩ : ∃ c, l[k]? = some c := ⟨_, List.getElem?_eq_getElem hlt⟩
        have hcl : wr.cell? ⟨w2.heap.size + 1, k, none⟩ = some (.int .u8 c.toNat) := by
          have h9 := HCE.out k c hcd
          have h8 : wr.heap[w2.heap.size + 1]? = w3.heap[w2.heap.size + 1]? := hT.2 _ (by have := HS3.out; omega) (by omega)
          unfold World.cell? at h9 ⊢
          simp only at h9 ⊢
          rw [h8]; exact h9
        have hdg := dig_bounds (HAD.out k c hcd)
        have hd1 := hdg.1
        have hd2 := hdg.2
        have hma := muladd g _ (nval (l.take k)) 10 ((c.toNat : Int) - 48) k (by omega) (by decide) (by decide) (by omega) (by omega) wr hwid
        have hnx := nval_snoc (l.take k) c
        rw [← take_next hcd] at hnx
        rw [show nval (l.take k) * 10 + ((c.toNat : Int) - 48) = nval (l.take (k + 1)) by rw [hnx]; omega] at hma
        have HMA := Lib.hid hma
        have HK := Lib.hid hlt
        have HNR := Lib.hid hnear
        have HTT := Lib.hid hT
        have hki : (k : Int) < (l.length : Int) := by omega
        have hk0 : (0 : Int) ≤ (k : Int) := by omega
        have hw8 : IntKind.u8.wrap ((c.toNat : Int) - 48) = (c.toNat : Int) - 48 := by rw [IntKind.wrap_u8]; omega
        have hw9 : IntKind.u64.wrap ((c.toNat : Int) - 48) = (c.toNat : Int) - 48 := by rw [IntKind.wrap_u64]; omega
        clear hdg hma hnx hcd hlt hnear hT hwid hk
        go_wp2_with fail
        refine HMA.out.mono ?_
        rintro e w' ⟨v', rfl, g', hn', hw', hT'⟩
        have HN2 := Lib.hid (Near.on HNR.out hn' HTT.out.size)
        have HT2 := Lib.hid (turn_on HTT.out HNR.out (by have := HS3.out; omega) hT')
        have HWW := Lib.hid hw'
        clear hn' hw' hT' hcl
        go_wp2
        go_roundw
        case rel => exact ⟨k + 1, g', by have := HK.out; omega, by go_num, HN2.out, HWW.out, HT2.out⟩
        case measure => simp [intOf]; have := HK.out; omega
      · have hke : k = l.length := by omega
        subst hke
        rw [List.take_of_length_le (Nat.le_refl _)] at hwid
        have hD0 := nval_nonneg l HAD.out
        obtain ⟨D, hD⟩ : ∃ D, D = nval l := ⟨_, rfl⟩
        rw [← hD] at hwid hD0
        rw [← hD] at HS
        have hwN := hwid.up hl
        have hX3 : Row w3 (w.heap.size + 1) 26 (cv [0, 0, 0, 0, 0, 0]) := HX.out.below HB3.out (by have := HS2.out; omega)
        have hZ3 : Row w3 w.heap.size 26 (cv [0, 0, 0, 0, 0, 0]) := HZ.out.below HB3.out (by have := HS2.out; omega)
        have hX9 : ∀ W, Turn w2.heap.size w3 W → Row W (w.heap.size + 1) 26 (cv [0, 0, 0, 0, 0, 0]) := fun W h => h.row hX3 (by have := HS2.out; omega)
        have hZ9 : ∀ W, Turn w2.heap.size w3 W → Row W w.heap.size 26 (cv [0, 0, 0, 0, 0, 0]) := fun W h => h.row hZ3 (by have := HS2.out; omega)
        have hB9 : ∀ W, Turn w2.heap.size w3 W → Below w.heap.size w W := fun W h => HB.out.trans ((HB3.out.mono (by have := HS2.out; omega)).trans (h.to (by have := HS2.out; omega)))
        have HX9 := Lib.hid hX9
        have HZ9 := Lib.hid hZ9
        have HB9 := Lib.hid hB9
        have HWN := Lib.hid hwN
        have HNR := Lib.hid hnear
        have HTT := Lib.hid hT
        have HD0 := Lib.hid hD0
        clear hX3 hZ3 hX9 hZ9 hB9 hwN hwid hnear hT hge hk hD hD0 HAD HT HCE HCV HX HZ HB HB3 hsz2
        obtain ⟨wA, hwA⟩ : ∃ wA, wA = wr := ⟨_, rfl⟩
        subst hwA
        have hpB := HP.out
        go_wp2
        go_loopw [1, 7, 10, 11] (fun pw v tw r wr => Rel2 w3 w2.heap.size D p 1000 pw v tw wr) (fun pw _ _ _ _ => (-intOf pw).toNat)
        case atStart => exact ⟨0, g, Nat.zero_le _, by simp, by simp, by simp [Int.emod_one], HNR.out, by rw [Int.pow_zero, Int.ediv_one]; exact HWN.out, HTT.out⟩
        case round =>
          clear HWN HNR HTT
          obtain ⟨i, g, hi, rfl, rfl, hdv, hnear, hwid, hT⟩ := hrel
          by_cases hlt : p + i < 0
          · have hdiv := divided g _ (D / 5 ^ i) 5 1000 (by decide) (by decide) (by decide) wr hwid
            rw [← five_div] at hdiv
            have HDV := Lib.hid hdiv
            have H5 := Lib.hid (five_step hdv)
            have hi2 : i + 1 ≤ (-p).toNat := by omega
            have HI := Lib.hid hi2
            have HNR := Lib.hid hnear
            have HTT := Lib.hid hT
            have hii : (i : Int) ≤ 149 := by omega
            clear hdiv hnear hT hwid hdv hi hi2
            obtain ⟨r, hr⟩ : ∃ r, r = D / 5 ^ i % 5 := ⟨_, rfl⟩
            rw [← hr] at HDV H5
            clear hr
            go_wp2_with fail
            refine HDV.out.mono ?_
            rintro e w' ⟨v', rfl, hw', hT'⟩
            have HT2 := Lib.hid (turn_on HTT.out HNR.out (by have := HS3.out; omega) hT')
            have HWW := Lib.hid hw'
            clear hw' hT'
            by_cases hr0 : r = 0
            · subst hr0
              go_wp2
              go_roundw
              case rel => exact ⟨i + 1, g, HI.out, by go_num, by go_num, by rw [H5.out, Int.mul_zero], HNR.out, HWW.out, HT2.out⟩
              case measure => simp [intOf]; omega
            · have hr1 : (r != 0) = true := by simpa using hr0
              have HSF := Lib.hid (show S = (0, false) by
                rw [HS.out, if_pos]
                intro h9
                have h8 := five_down HI.out h9
                rw [H5.out] at h8
                rcases Int.mul_eq_zero.mp h8 with h7 | h7
                · have := pow_pos' (q := 5) (by decide) i; omega
                · exact hr0 h7)
              have RX := Lib.hid (HX9.out _ HT2.out)
              have RZ := Lib.hid (HZ9.out _ HT2.out)
              have RB := Lib.hid (HB9.out _ HT2.out)
              clear hr0
              go_wp2_with (first | (refine wpList_load_row rfl 26 _ rfl (w.heap.size + 1) rfl 26 _ (0, 0) _ RX.out Tryd.underlying26 rfl (by kernel_rfl) ?_) | (refine wpList_store_row rfl 26 _ _ rfl (w.heap.size) _ rfl rfl 26 _ RZ.out ?_ ?_ ?_ ?_; kernel_rfl; (first | (rw [wv_size, wv_size]) | kernel_rfl); (first | exact cv_one _ | kernel_rfl)))
              refine bodyPost_ret (v := .tuple #[.agg (_), .bool false]) (results_two Tryd.results41 _ _ (w.heap.size) 26 _ _ rfl _ rfl (RZ.out.put _) Tryd.underlying26 rfl (by kernel_rfl)) rfl ⟨by rw [HSF.out, show wv 0 = cv [0, 0, 0, 0, 0, 0] from wv_zero], Row.put_below RB.out RZ.out (Nat.le_refl _) _⟩
          · have hie : i = (-p).toNat := by omega
            subst hie
            have hpi : p + ((-p).toNat : Int) = (p.toNat : Int) := by omega
            rw [hpi]
            have HSY := Lib.hid (show S = (if scY D p < 18446744073709551616 ^ 6 then (scY D p, true) else (0, false)) by rw [HS.out, if_neg (by intro h9; exact h9 hdv)])
            have HY := Lib.hid (show scY D p = D / 5 ^ (-p).toNat * 10 ^ p.toNat * 2 ^ (149 - (-p).toNat) from rfl)
            have HWN := Lib.hid hwid
            have HNR := Lib.hid hnear
            have HTT := Lib.hid hT
            have HE0 := Lib.hid (Int.ediv_nonneg HD0.out (show (0 : Int) ≤ 5 ^ (-p).toNat by have := pow_pos' (q := 5) (by decide) (-p).toNat; omega))
            obtain ⟨E, hE⟩ : ∃ E, E = D / 5 ^ (-p).toNat := ⟨_, rfl⟩
            obtain ⟨Y, hY⟩ : ∃ Y, Y = scY D p := ⟨_, rfl⟩
            rw [← hE] at HWN HE0 HY
            rw [← hY] at HY HSY
            obtain ⟨T, hTe⟩ : ∃ T : Nat, T = 149 - (-p).toNat := ⟨_, rfl⟩
            obtain ⟨P, hPe⟩ : ∃ P : Nat, P = p.toNat := ⟨_, rfl⟩
            rw [← hTe, ← hPe] at HY
            rw [← hPe]
            have hTT2 : (149 : Int) - ((-p).toNat : Int) = (T : Int) := by omega
            rw [hTT2]
            have hP80 : (P : Int) ≤ 80 := by omega
            have hT149 : (T : Int) ≤ 149 := by omega
            have hPn : ¬ ((P : Int) < 0) := by omega
            have hTn : ¬ ((T : Int) < 0) := by omega
            clear hwid hnear hT hdv hi hlt hpi hE hY hTe hPe hTT2 HS HD0 HP hpB p0 p1 c1 c2
            obtain ⟨wC, hwC⟩ : ∃ wC, wC = wr := ⟨_, rfl⟩
            subst hwC
            go_wp2
            go_loopw [1, 7] (fun pw v wr => Rel3 w3 w2.heap.size E P 1000 pw v wr) (fun pw _ _ => (intOf pw).toNat)
            case atStart => exact ⟨0, g, by omega, by simp, HNR.out, by rw [Int.pow_zero, Int.mul_one]; exact HWN.out, HTT.out⟩
            case round =>
              clear HWN HNR HTT hPn
              obtain ⟨i, g, hi, rfl, hnear, hwid, hT⟩ := hrel
              have HNR := Lib.hid hnear
              have HTT := Lib.hid hT
              by_cases hlt : (i : Int) < (P : Int)
              · have hma := muladd g _ (E * 10 ^ i) 10 0 (1000 + i) (by omega) (by decide) (by decide) (by decide) (by decide) wr hwid
                rw [Int.add_zero, Int.mul_assoc, ← Int.pow_succ, Nat.add_assoc] at hma
                have HMA := Lib.hid hma
                have HI := Lib.hid hlt
                have hpos : (0 : Int) < (P : Int) - (i : Int) := by omega
                have hb9 : (P : Int) - (i : Int) ≤ 80 := by omega
                clear hma hnear hT hwid hi hlt
                go_wp2_with fail
                refine HMA.out.mono ?_
                rintro e w' ⟨v', rfl, g', hn', hw', hT'⟩
                have HN2 := Lib.hid (Near.on HNR.out hn' HTT.out.size)
                have HT2 := Lib.hid (turn_on HTT.out HNR.out (by have := HS3.out; omega) hT')
                have HWW := Lib.hid hw'
                clear hn' hw' hT'
                go_wp2
                go_roundw
                case rel => exact ⟨i + 1, g', by have := HI.out; omega, by go_num, HN2.out, HWW.out, HT2.out⟩
                case measure => simp [intOf]; omega
              · have hie : i = P := by omega
                subst hie
                rw [Int.sub_self]
                have HWN := Lib.hid hwid
                have HF0 := Lib.hid (Int.mul_nonneg HE0.out (show (0 : Int) ≤ 10 ^ i by have := pow_pos' (q := 10) (by decide) i; omega))
                obtain ⟨F, hF⟩ : ∃ F, F = E * 10 ^ i := ⟨_, rfl⟩
                rw [← hF] at HWN HF0 HY
                clear hF hnear hT hwid hi hlt HE0
                obtain ⟨wD, hwD⟩ : ∃ wD, wD = wr := ⟨_, rfl⟩
                subst hwD
                go_wp2
                go_loopw [7, 10] (fun v tw wr => Rel4 w3 w2.heap.size F T (1000 + i) v tw wr) (fun _ tw _ => (intOf tw).toNat)
                case atStart => exact ⟨0, g, by omega, by simp, HNR.out, by rw [Int.pow_zero, Int.mul_one]; exact HWN.out, HTT.out⟩
                case round =>
                  clear HWN HNR HTT hTn
                  obtain ⟨k, g, hk, rfl, hnear, hwid, hT⟩ := hrel
                  have HNR := Lib.hid hnear
                  have HTT := Lib.hid hT
                  by_cases hlt : (k : Int) < (T : Int)
                  · have hma := muladd g _ (F * 2 ^ k) 2 0 (1000 + i + k) (by omega) (by decide) (by decide) (by decide) (by decide) wr hwid
                    rw [Int.add_zero, Int.mul_assoc, ← Int.pow_succ, Nat.add_assoc] at hma
                    have HMA := Lib.hid hma
                    have HI := Lib.hid hlt
                    have hpos : (0 : Int) < (T : Int) - (k : Int) := by omega
                    have hb9 : (T : Int) - (k : Int) ≤ 149 := by omega
                    clear hma hnear hT hwid hk hlt
                    go_wp2_with fail
                    refine HMA.out.mono ?_
                    rintro e w' ⟨v', rfl, g', hn', hw', hT'⟩
                    have HN2 := Lib.hid (Near.on HNR.out hn' HTT.out.size)
                    have HT2 := Lib.hid (turn_on HTT.out HNR.out (by have := HS3.out; omega) hT')
                    have HWW := Lib.hid hw'
                    clear hn' hw' hT'
                    go_wp2
                    go_roundw
                    case rel => exact ⟨k + 1, g', by have := HI.out; omega, by go_num, HN2.out, HWW.out, HT2.out⟩
                    case measure => simp [intOf]; omega
                  · have hke : k = T := by omega
                    subst hke
                    rw [Int.sub_self]
                    rw [← HY.out] at hwid
                    obtain ⟨n, cap, hn, rfl, hnc, hmc, hpre, hy0, hy1, hmin⟩ := hwid
                    have RX := Lib.hid (HX9.out _ hT)
                    have RZ := Lib.hid (HZ9.out _ hT)
                    have RB := Lib.hid (HB9.out _ hT)
                    have hnb : (n : Int) ≤ 1000000 := by omega
                    have HPR := Lib.hid hpre
                    clear hnear hT hk hlt HNR HTT HY HF0 hpre
                    by_cases h6 : 6 < n
                    · have HSF := Lib.hid (show S = (0, false) by
                        rw [HSY.out, if_neg]
                        rcases hmin with h9 | h9
                        · omega
                        · have := pow_mono (q := 18446744073709551616) (m := 6) (n := n - 1) (by decide) (by omega)
                          omega)
                      have hn6 : (6 : Int) < (n : Int) := by omega
                      clear hmin h6 hy0 hy1
                      go_wp2_with (first | (refine wpList_load_row rfl 26 _ rfl (w.heap.size + 1) rfl 26 _ (0, 0) _ RX.out Tryd.underlying26 rfl (by kernel_rfl) ?_) | (refine wpList_store_row rfl 26 _ _ rfl (w.heap.size) _ rfl rfl 26 _ RZ.out ?_ ?_ ?_ ?_; kernel_rfl; (first | (rw [wv_size, wv_size]) | kernel_rfl); (first | exact cv_one _ | kernel_rfl)))
                      refine bodyPost_ret (v := .tuple #[.agg (_), .bool false]) (results_two Tryd.results41 _ _ (w.heap.size) 26 _ _ rfl _ rfl (RZ.out.put _) Tryd.underlying26 rfl (by kernel_rfl)) rfl ⟨by rw [HSF.out, show wv 0 = cv [0, 0, 0, 0, 0, 0] from wv_zero], Row.put_below RB.out RZ.out (Nat.le_refl _) _⟩
                    · have hlt6 : Y < 18446744073709551616 ^ 6 := by
                        have := pow_mono (q := 18446744073709551616) (m := n) (n := 6) (by decide) (by omega)
                        omega
                      have HSF := Lib.hid (show S = (Y, true) by rw [HSY.out, if_pos hlt6])
                      have hn6 : ¬ ((6 : Int) < (n : Int)) := by omega
                      clear hmin hlt6
                      have hcp := copied (Y := Y) (n := n) (by omega) (by assumption) hy1
                      have hsrc : ∀ (j : Nat) (v : Value), (u64s (digs 18446744073709551616 Y n))[j]? = some v → wr.cell? ((⟨g, 0, none⟩ : Addr).add j) = some v := fun j v hj => by
                        have := HPR.out.get hj
                        have e : (⟨g, 0, none⟩ : Addr).add j = ⟨g, j, none⟩ := by unfold Addr.add; split <;> simp_all
                        rw [e]; exact this
                      have HSRC := Lib.hid hsrc
                      have HLEN := Lib.hid (show (u64s (digs 18446744073709551616 Y n)).length = Nat.min n 6 ∧ 0 + (u64s (digs 18446744073709551616 Y n)).length ≤ (cv [0, 0, 0, 0, 0, 0]).size by
                        rw [u64s_len]
                        have : (cv [0, 0, 0, 0, 0, 0]).size = 6 := rfl
                        rw [this]
                        exact ⟨(Nat.min_eq_left (by omega)).symm, by omega⟩)
                      have hcpw := congrArg (wr.setRow (w.heap.size + 1)) hcp
                      have RX2 := Lib.hid (RX.out.put (wv Y))
                      have RZ2 := Lib.hid (RZ.out.put_other (b' := w.heap.size + 1) (by omega) (wv Y))
                      have RB2 := Lib.hid (Row.put_below RB.out RX.out (by omega) (wv Y))
                      clear hcp hsrc hy1
                      have hcpy := run_copy_row (P := Tryd.prog) wr 119 119 3 22 (w.heap.size + 1) 0 6 6 ⟨g, 0, none⟩ n cap (cv [0, 0, 0, 0, 0, 0]) 26 (u64s (digs 18446744073709551616 Y n)) Tryd.underlying119 (by kernel_rfl) RX.out HLEN.out.1 HSRC.out HLEN.out.2 (one_u64s _)
                      rw [hcpw] at hcpy
                      go_wp2_with (first | (refine wpList_load_row rfl 26 _ rfl (w.heap.size + 1) rfl 26 _ (0, 0) _ RX2.out Tryd.underlying26 rfl (by kernel_rfl) ?_) | (refine wpList_store_row rfl 26 _ _ rfl (w.heap.size) _ rfl rfl 26 _ RZ2.out ?_ ?_ ?_ ?_; kernel_rfl; (first | (rw [wv_size, wv_size]) | kernel_rfl); (first | exact cv_one _ | kernel_rfl)))
                      refine bodyPost_ret (v := .tuple #[.agg (wv Y), .bool true]) (results_two Tryd.results41 _ _ (w.heap.size) 26 _ _ rfl _ rfl (RZ2.out.put _) Tryd.underlying26 rfl (by kernel_rfl)) rfl ⟨by rw [HSF.out], Row.put_below RB2.out RZ2.out (Nat.le_refl _) _⟩
end Go.Proofs.YtbbldcbilnkkdaaDoor.Parse
