/-
  Sums of layer 2: Text, of the program. No condition.
-/
import Derived.Test.YtbbldcbilnkkdaaDoorTurn
import Derived.Test.YtbbldcbilnkkdaaDoorTextV
import Derived.Test.YtbbldcbilnkkdaaDoorBuild
import Derived.Deep.DeepCutAuto
import Derived.Deep.CutBlock
import Derived.Deep.CutRange
set_option linter.unusedVariables false
set_option linter.unusedSimpArgs false
namespace Go.Proofs.YtbbldcbilnkkdaaDoor.Reck
open Go.RowKit Go.ChangeShapes Num Tly Ref K Bld

def bc (l : List Int) : List Value := l.map (Value.int .u8)
theorem bc_bytes {l : List Int} (h : ∀ x ∈ l, 0 ≤ x ∧ x < 256) : bc l = Lib.byteCells (l.map b8) := by
  unfold bc Lib.byteCells
  rw [List.map_map]
  apply List.map_congr_left
  intro x hx
  have := h x hx
  simp only [Function.comp, b8_int this.1 this.2]
theorem bc_app (l : List Int) (c : Int) : bc (l ++ [c]) = bc l ++ [.int .u8 c] := by simp [bc]
theorem row_others {e T : TypeId} {b g : Nat} {w w' : World} {cs : Array Value} (h : Lib.OthersKept e (some b) w w') (hr : Row w g T cs) (hb : g ≠ b) (hT : T ≠ e) : Row w' g T cs :=
  h g _ hr (by simpa using hb) (by intro c fz he; injection he with h1 h2 h3; exact hT h2)
theorem turn_put {g : Nat} {w : World} {T : TypeId} {cs : Array Value} (hr : Row w g T cs) (cs' : Array Value) : Turn g w (w.setRow g cs') :=
  ⟨Row.put_below (Below.refl g w) hr (Nat.le_refl _) cs', fun k _ hn => setRow_other w g k cs' hn⟩
theorem own_turn {g base size n : Nat} {e : TypeId} {v : Value} {w w' : World} {xs : List Value} (h : w.ownsRow base e size v n xs) (ht : Turn g w w') (hg : g < base) : w'.ownsRow base e size v n xs := by
  obtain ⟨h1, h2 | ⟨k, cap, cur, hv, hk, hh, r⟩⟩ := h
  · exact ⟨h1, .inl h2⟩
  · exact ⟨h1, .inr ⟨k, cap, cur, hv, hk, ht.row (cs := cur) hh (by omega), r⟩⟩
theorem builder_turn {g B b : Nat} {T e T2 : TypeId} {bs : List Value} {w w' : World} {cs : Array Value} (h : Lib.IsBuilderF T e B b bs w) (ht : Turn g w w') (hr : Row w g T2 cs) (h1 : T2 ≠ T) (h2 : T2 ≠ e) : Lib.IsBuilderF T e B b bs w' := by
  have key : ∀ p, Lib.BuilderAtF T e B b p bs w → Lib.BuilderAtF T e B b p bs w' := by
    rintro p ⟨hB, v, hb, hown, hne⟩
    have hlt : b < w.heap.size := by
      rcases Nat.lt_or_ge b w.heap.size with h | h
      · exact h
      · rw [Array.getElem?_eq_none h] at hb; cases hb
    have hbg : b ≠ g := by
      rintro rfl
      have e := hb.symm.trans hr
      injection e with e
      injection e with e1 e2 e3
      exact h1 e2.symm
    refine ⟨hB, v, (ht.2 b hlt hbg).trans hb, ?_, hne⟩
    obtain ⟨hl, h3 | ⟨k, cap, cur, fz, hv, hk, hh, r⟩⟩ := hown
    · exact ⟨hl, .inl h3⟩
    · have hkl : k < w.heap.size := by
        rcases Nat.lt_or_ge k w.heap.size with h | h
        · exact h
        · rw [Array.getElem?_eq_none h] at hh; cases hh
      have hkg : k ≠ g := by
        rintro rfl
        have e := hh.symm.trans hr
        injection e with e
        injection e with e1 e2 e3
        exact h2 e2.symm
      exact ⟨hl, .inr ⟨k, cap, cur, fz, hv, hk, (ht.2 k hkl hkg).trans hh, r⟩⟩
  exact h.elim (fun x => .inl (key _ x)) (fun x => .inr (key _ x))
theorem builder_below {B b : Nat} {T e : TypeId} {bs : List Value} {w w' : World} (h : Lib.IsBuilderF T e B b bs w) (ht : Below w.heap.size w w') : Lib.IsBuilderF T e B b bs w' := by
  have key : ∀ p, Lib.BuilderAtF T e B b p bs w → Lib.BuilderAtF T e B b p bs w' := by
    rintro p ⟨hB, v, hb, hown, hne⟩
    have hlt : b < w.heap.size := by
      rcases Nat.lt_or_ge b w.heap.size with h | h
      · exact h
      · rw [Array.getElem?_eq_none h] at hb; cases hb
    refine ⟨hB, v, (ht.block b hlt).trans hb, ?_, hne⟩
    obtain ⟨hl, h3 | ⟨k, cap, cur, fz, hv, hk, hh, r⟩⟩ := hown
    · exact ⟨hl, .inl h3⟩
    · have hkl : k < w.heap.size := by
        rcases Nat.lt_or_ge k w.heap.size with h | h
        · exact h
        · rw [Array.getElem?_eq_none h] at hh; cases hh
      exact ⟨hl, .inr ⟨k, cap, cur, fz, hv, hk, (ht.block k hkl).trans hh, r⟩⟩
  exact h.elim (fun x => .inl (key _ x)) (fun x => .inr (key _ x))
def lenOf : Value → Nat
  | .slice _ n _ => n
  | _ => 0
def RelT1 (g : Nat) (w3 : World) (H : Int) (v : Value) (wr : World) : Prop :=
  ∃ (p : List Int) (f : Nat) (h : Int), p.length + f = 100 ∧ 0 ≤ h ∧ h < 10 ^ f ∧ h ≤ H ∧ dl 100 H = p ++ dl f h ∧ wr.ownsRow w3.heap.size 5 1 v p.length (bc (p.map asc)) ∧ Row wr g 26 (wv h) ∧ Turn g w3 wr
theorem neq_null {h : Int} (h0 : 0 ≤ h) (h1 : h < 18446744073709551616 ^ 6) (W : World) : (binOp .neq 26 (.agg (wv h)) (.agg #[Value.int .u64 0, Value.int .u64 0, Value.int .u64 0, Value.int .u64 0, Value.int .u64 0, Value.int .u64 0])).run Tryd.prog W = .ok (.bool (!decide (h = 0))) W := by
  have e := K.neq_ints (P := Tryd.prog) W (t := 26) (e := 22) (n := 6) (k := .u64) Tryd.underlying26 (by kernel_rfl) (by kernel_rfl) (digs 18446744073709551616 h 6) [0, 0, 0, 0, 0, 0] (digs_length _ _ _) rfl
  rw [null_is h0 h1] at e
  exact e
def RelT2 (b : Nat) (wL : World) (S0 p : List Int) (i : Value) (wr : World) : Prop :=
  ∃ j : Nat, j ≤ p.length ∧ i = .int .i64 j ∧ Lib.IsBuilderF 85 5 b b (bc (S0 ++ (p.map asc).reverse.take j)) wr ∧ Below b wL wr
def RelT3 (b g9 : Nat) (wL : World) (S1 : List Int) (F : Int) (i : Value) (wr : World) : Prop :=
  ∃ (j : Nat) (q : List Int) (f : Int), j ≤ 149 ∧ i = .int .i64 j ∧ q.length = j ∧ Row wr g9 26 (wv f) ∧ 0 ≤ f ∧ f < 2 ^ 149 ∧ f % 2 ^ j = 0 ∧ fl 149 F = q ++ fl (149 - j) f ∧ Lib.IsBuilderF 85 5 b b (bc (S1 ++ (if j = 0 then [] else 46 :: q.map asc))) wr ∧ Below b wL wr
theorem infoB1 : (Tryd.prog.info? 5).map (fun i => (i.zero, i.size, i.bytes)) = some (some (.int .u8 0), 1, 1) := by kernel_rfl
set_option maxRecDepth 100000 in
set_option maxHeartbeats 8000000 in
theorem text (z : Int) (h0 : -half ≤ z) (h1 : z < half) (w : World) : Calls Tryd.prog 14 #[.agg (wv z)] w fun e w' => e = .returned (.string (textOf (decide (z < 0)) (mag z))) ∧ Below w.heap.size w w' := by
  have HA := Lib.hid (Row.new w 26 (wv z))
  have HB := Lib.hid ((Below.refl w.heap.size w).alloc (Nat.le_refl _) (.cells (wv z) 26))
  obtain ⟨i0, hi, hz0, hz1, hz2⟩ := info_parts infoB1
  obtain ⟨m, hm⟩ : ∃ m, m = mag z := ⟨_, rfl⟩
  obtain ⟨n, hn⟩ : ∃ n, n = decide (z < 0) := ⟨_, rfl⟩
  have hap := apart z h0 h1
  rw [← hm, ← hn] at hap ⊢
  have HAP := Lib.hid hap
  have hmn : 0 ≤ m := by rw [hm]; unfold mag; split <;> omega
  have hml : m < 18446744073709551616 ^ 6 := by
    have hp : (0 : Int) < half := by decide
    have e : (18446744073709551616 : Int) ^ 6 = half + half := by decide
    rw [e, hm]; unfold mag; split <;> omega
  have HMB := Lib.hid (And.intro hmn hml)
  obtain ⟨H, hH⟩ : ∃ H, H = m / 2 ^ 149 := ⟨_, rfl⟩
  obtain ⟨F, hF⟩ : ∃ F, F = m % 2 ^ 149 := ⟨_, rfl⟩
  have hdn := fun W => down m 149 2 21 hmn hml (by omega) (by omega) (by omega) W
  rw [show 64 * 2 + 21 = 149 from rfl, ← hH] at hdn
  have HDN := Lib.hid hdn
  have hlo := fun W => low149 m W
  rw [← hF] at hlo
  have HLO := Lib.hid hlo
  have HT := Lib.hid (show textOf n m = ⟨((signT n ++ headT H ++ fracT F).map b8).toArray⟩ by unfold textOf textL; rw [← hH, ← hF])
  have hHn : 0 ≤ H := by rw [hH]; exact Int.ediv_nonneg hmn (Int.le_of_lt (pow_pos' two_pos _))
  have hHl : H < 10 ^ 100 := by
    have e : H < 2 ^ 235 := by
      rw [hH]
      refine Int.ediv_lt_of_lt_mul (pow_pos' two_pos _) ?_
      rw [← Int.pow_add, show 235 + 149 = 64 * 6 from rfl, ← pow64]; exact hml
    have e2 : (2 : Int) ^ 235 < 10 ^ 100 := by decide
    exact Int.lt_trans e e2
  have hHq : H < 18446744073709551616 ^ 6 := by
    have := Int.ediv_le_self (2 ^ 149) hmn
    rw [← hH] at this
    exact Int.lt_of_le_of_lt this hml
  have hFn : 0 ≤ F := by rw [hF]; exact Int.emod_nonneg _ (by have := pow_pos' two_pos 149; omega)
  have hFl : F < 2 ^ 149 := by rw [hF]; exact Int.emod_lt_of_pos _ (pow_pos' two_pos _)
  have HHB := Lib.hid (And.intro hHn (And.intro hHl hHq))
  have HFB := Lib.hid (And.intro hFn hFl)
  clear h0 h1 hm hn hap hmn hml hH hF hdn hlo hHn hHl hHq hFn hFl
  go_enter Tryd.func14, Tryd.ntmps14
  go_wp2_with (refine wpList_load_row rfl 26 _ rfl (w.heap.size) rfl 26 _ (0, 0) _ HA.out Tryd.underlying26 rfl (by kernel_rfl) ?_)
  refine (HAP.out _).mono ?_
  rintro e w1 ⟨rfl, k1⟩
  have B1 := Lib.hid (HB.out.trans (k1.mono HB.out.size))
  have N1 := Lib.hid (Row.new w1 26 (cv [0, 0, 0, 0, 0, 0]))
  have R1 := Lib.hid (N1.out.put (wv m))
  have B2 := Lib.hid (Row.put_below (B1.out.alloc B1.out.size (.cells (cv [0, 0, 0, 0, 0, 0]) 26)) N1.out B1.out.size (wv m))
  clear k1 HA HB HAP
  go_wp2_with (first | (refine wpList_store_row rfl 26 _ _ rfl (w1.heap.size) _ rfl rfl 26 _ N1.out ?_ ?_ ?_ ?_; kernel_rfl; (first | (rw [wv_size, wv_size]) | kernel_rfl); (first | exact cv_one _ | kernel_rfl)) | (refine wpList_load_row rfl 26 _ rfl (w1.heap.size) rfl 26 _ (0, 0) _ R1.out Tryd.underlying26 rfl (by kernel_rfl) ?_))
  refine (HDN.out _).mono ?_
  rintro e w2 ⟨rfl, k2⟩
  have M2 := Lib.hid (R1.out.below k2 R1.out.lt)
  have B3 := Lib.hid (B2.out.trans (k2.mono B2.out.size))
  obtain ⟨g4, hg4⟩ : ∃ g, g = w1.heap.size := ⟨_, rfl⟩
  have hg4B := Lib.hid (show w.heap.size ≤ g4 by rw [hg4]; exact B1.out.size)
  rw [← hg4] at M2 ⊢
  clear k2 N1 R1 B2 HDN hg4
  have N2 := Lib.hid (Row.new w2 26 (cv [0, 0, 0, 0, 0, 0]))
  have M3 := Lib.hid ((M2.out.alloc (.cells (cv [0, 0, 0, 0, 0, 0]) 26)).put_other (b' := w2.heap.size) (by have := M2.out.lt; omega) (wv H))
  have B4 := Lib.hid (Row.put_below (B3.out.alloc B3.out.size (.cells (cv [0, 0, 0, 0, 0, 0]) 26)) N2.out B3.out.size (wv H))
  have R2 := Lib.hid (N2.out.put (wv H))
  go_wp2_with (refine wpList_store_row rfl 26 _ _ rfl (w2.heap.size) _ rfl rfl 26 _ N2.out ?_ ?_ ?_ ?_; kernel_rfl; (first | (rw [wv_size, wv_size]) | kernel_rfl); (first | exact cv_one _ | kernel_rfl))
  obtain ⟨g5, hg5⟩ : ∃ g, g = w2.heap.size := ⟨_, rfl⟩
  have hg5B := Lib.hid (show w.heap.size ≤ g5 ∧ g4 < g5 by rw [hg5]; exact ⟨B3.out.size, M2.out.lt⟩)
  rw [← hg5] at R2 ⊢
  obtain ⟨w3, hw3⟩ : ∃ w3, w3 = (w2.alloc (.cells (cv [0, 0, 0, 0, 0, 0]) 26)).setRow w2.heap.size (wv H) := ⟨_, rfl⟩
  rw [← hw3] at M3 B4
  have hw3' : (w2.alloc (.cells (cv [0, 0, 0, 0, 0, 0]) 26)).setRow g5 (wv H) = w3 := by rw [hw3, hg5]
  rw [hw3'] at R2
  have hw3'' : (w2.alloc (.cells #[Value.int .u64 0, Value.int .u64 0, Value.int .u64 0, Value.int .u64 0, Value.int .u64 0, Value.int .u64 0] 26)).setRow g5 (wv H) = w3 := hw3'
  rw [hw3'']
  have hg53 := Lib.hid (R2.out.lt)
  clear hw3 hw3' hw3'' hg5 N2 M2 B3
  go_wp2
  go_loopw [6] (fun v wr => RelT1 g5 w3 H v wr) (fun v _ => 100 - lenOf v)
  case atStart =>
    exact ⟨[], 100, H, rfl, HHB.out.1, HHB.out.2.1, Int.le_refl _, rfl, World.ownsRow_nil _ _ _ _, R2.out, Turn.refl _ _⟩
  case round =>
    clear R2
    obtain ⟨p, f, h, hpf, hh0, hh1, hhH, hdl, hown, hr, ht⟩ := hrel
    have hhq : h < 18446744073709551616 ^ 6 := Int.lt_of_le_of_lt hhH HHB.out.2.2
    have hq := neq_null hh0 hhq
    have HR := Lib.hid hr
    obtain ⟨A, cp, rfl⟩ := own_shape hown
    by_cases hz : h = 0
    · have hzd : decide (h = 0) = true := by simp [hz]
      have hpd : dl 100 H = p := by rw [hdl, hz, dl_null, List.append_nil]
      have HPD := Lib.hid hpd
      have HLI := Lib.hid (lies_own hown)
      have ML := Lib.hid (ht.row M3.out (by have := hg5B.out; omega))
      have BL := Lib.hid (B4.out.trans (ht.to (B := w.heap.size) hg5B.out.1))
      have hpl : p.length ≤ 100 := by omega
      have hg4l := Lib.hid ML.out.lt
      rw [hzd] at hq
      clear hz hzd hpd hdl hhH hh0 hh1 hpf hown hr ht hhq
      obtain ⟨wL, hwL⟩ : ∃ wL, wL = wr := ⟨_, rfl⟩
      subst hwL
      go_upto_if 27 with (first | (refine wpList_load_row rfl 26 _ rfl (g5) rfl 26 _ (0, 0) _ HR.out Tryd.underlying26 rfl (by kernel_rfl) ?_) | fail)
      obtain ⟨b, hb⟩ : ∃ b, b = wL.heap.size := ⟨_, rfl⟩
      have hbw := Lib.hid hb
      have HF0 := Lib.hid (Lib.IsBuilderF.of (Lib.fresh_isBuilder 85 5 wL))
      have HBL0 := Lib.hid ((Below.refl b wL).alloc (by omega) (.cells #[.pointer none, .slice none 0 0] 85))
      rw [← hb] at HF0 ⊢
      clear hq HR hb
      go_cut [] (fun wx => Lib.IsBuilderF 85 5 b b (bc (signT n)) wx ∧ Below b wL wx)
      case first =>
        cases n
        · go_wp2
          go_meet
          exact ⟨HF0.out, HBL0.out⟩
        · go_wp2_with fail
          refine (writeByte b b [] 45 _ HF0.out (by simp) (by simp [hbw.out])).mono ?_
          rintro e wx ⟨rfl, h1, h2, h3⟩
          go_wp2
          go_meet
          exact ⟨.inr h1, HBL0.out.trans h2⟩
      case rest =>
        obtain ⟨hF1, hB1⟩ := hcut
        have HF1 := Lib.hid hF1
        have HB1 := Lib.hid hB1
        clear hF1 hB1 HF0 HBL0
        obtain ⟨S0, hS0⟩ : ∃ S, S = signT n ++ (if p = [] then [48] else []) := ⟨_, rfl⟩
        have HS0 := Lib.hid hS0
        have hsl : (signT n).length ≤ 1 := by cases n <;> simp [signT]
        have hS0l : S0.length ≤ 2 := by rw [hS0]; split <;> simp <;> omega
        have hbl := HB1.out.size
        go_upto_if 31 with (fail)
        go_cut [] (fun wx => Lib.IsBuilderF 85 5 b b (bc S0) wx ∧ Below b wL wx)
        case first =>
          by_cases hp : p = []
          · have hpl1 : ((p.length : Int) == 0) = true := by simp [hp]
            have HS1 := Lib.hid (show S0 = signT n ++ [48] by rw [hS0, if_pos hp])
            clear hS0 hp
            go_wp2_with fail
            refine (writeByte b b (bc (signT n)) 48 _ HF1.out (by simp [bc]; omega) (by have := hbw.out; omega)).mono ?_
            rintro e wy ⟨rfl, h1, h2, h3⟩
            go_wp2
            go_meet
            rw [HS1.out, bc_app]
            exact ⟨.inr h1, HB1.out.trans h2⟩
          · have hpl0 : ¬ p.length = 0 := fun h => hp (List.eq_nil_of_length_eq_zero h)
            have hpl1 : ((p.length : Int) == 0) = false := by simpa using hpl0
            have HS1 := Lib.hid (show S0 = signT n by rw [hS0, if_neg hp, List.append_nil])
            clear hS0 hp
            go_wp2
            go_meet
            rw [HS1.out]
            exact ⟨HF1.out, HB1.out⟩
        case rest =>
          obtain ⟨hF2, hB2⟩ := hcut
          have HF2 := Lib.hid hF2
          have HB2 := Lib.hid hB2
          clear hF2 hB2 HF1 HB1 hS0 hsl hbl
          have hpl2 := Lib.hid hpl
          go_wp2
          go_loopw [35] (fun i wx => RelT2 b wL S0 p i wx) (fun i _ => p.length - (intOf i).toNat)
          case atStart => exact ⟨0, Nat.zero_le _, rfl, by simpa using HF2.out, HB2.out⟩
          case round =>
            clear HF2 HB2
            obtain ⟨j, hj, rfl, hf, hl⟩ := hrel
            rcases Nat.lt_or_ge j p.length with h6 | h6
            · have hkb : decide ((j : Int) < (p.length : Int)) = true := by simp; omega
              obtain ⟨c, hc⟩ : ∃ c, (p.map asc)[p.length - 1 - j]? = some c := ⟨_, List.getElem?_eq_getElem (by simp; omega)⟩
              have hrv : (p.map asc).reverse[j]? = some c := by rw [List.getElem?_reverse (by simpa using h6)]; simpa using hc
              obtain ⟨ad, rfl, hBB, hcell⟩ := (HLI.out.below (hbw.out ▸ hl)).at_ (k := p.length - 1 - j) (by omega)
              have hx := hcell (.int .u8 c) (by unfold bc; rw [List.getElem?_map, hc]; rfl)
              have e1 : (p.length : Int) - 1 - (j : Int) = ((p.length - 1 - j : Nat) : Int) := by omega
              have f0 : (0 : Int) ≤ ((p.length - 1 - j : Nat) : Int) := by omega
              have f1 : ((p.length - 1 - j : Nat) : Int) < (p.length : Int) := by omega
              have HRV := Lib.hid (show S0 ++ (p.map asc).reverse.take (j + 1) = (S0 ++ (p.map asc).reverse.take j) ++ [c] by
                obtain ⟨h', rfl⟩ := List.getElem?_eq_some_iff.1 hrv
                rw [List.take_succ_eq_append_getElem h', List.append_assoc])
              have hsz := hl.size
              have hlen : (bc (S0 ++ (p.map asc).reverse.take j)).length + 1 ≤ 140737488355328 := by
                have := hpl2.out
                simp [bc]
                omega
              have HLN := Lib.hid hlen
              have HF := Lib.hid hf
              have h66 := Lib.hid h6
              clear hc hrv hcell hlen hf h6
              generalize p.length - 1 - j = q at *
              go_wp2_with fail
              refine (writeByte b b _ c _ HF.out HLN.out (by have := hbw.out; omega)).mono ?_
              rintro e wy ⟨rfl, h1, h2, h3⟩
              have HF3 := Lib.hid (show Lib.IsBuilderF 85 5 b b (bc (S0 ++ (p.map asc).reverse.take (j + 1))) wy by
                rw [HRV.out, bc_app]; exact .inr h1)
              have HB3 := Lib.hid (hl.trans h2)
              clear h1 h2 h3 hl HF hx
              go_wp2
              go_roundw
              case rel => exact ⟨j + 1, h66.out, by go_num, HF3.out, HB3.out⟩
              case measure => simp [intOf]; have := h66.out; omega
            · obtain rfl : j = p.length := by omega
              have hkb : decide ((p.length : Int) < (p.length : Int)) = false := by simp
              obtain ⟨S1, hS1⟩ : ∃ S, S = signT n ++ headT H := ⟨_, rfl⟩
              have e1 : S0 ++ (p.map asc).reverse.take p.length = S1 := by
                rw [List.take_of_length_le (by simp), HS0.out, hS1]
                unfold headT
                by_cases hp : p = []
                · have hH0 : H = 0 := by
                    by_cases hH : H = 0
                    · exact hH
                    · have := HPD.out
                      rw [hp, show (100 : Nat) = 99 + 1 from rfl, dl_succ, if_neg hH] at this
                      cases this
                  rw [if_pos hp, if_pos hH0, hp]
                  simp
                · have hH0 : H ≠ 0 := fun h => hp (by rw [← HPD.out, h, dl_null])
                  rw [if_neg hp, if_neg hH0, HPD.out]
                  simp
              rw [e1] at hf
              have HS1 := Lib.hid hS1
              have hS1l : S1.length ≤ 102 := by rw [← e1]; simp; omega
              have HFA := Lib.hid hf
              have HBA := Lib.hid hl
              have MA := Lib.hid (ML.out.below hl (by have := hg4l.out; have := hbw.out; omega))
              have hszA := hl.size
              clear e1 hS1 hf hl hj h6 hS0l
              go_wp2_with (refine wpList_load_row rfl 26 _ rfl (g4) rfl 26 _ (0, 0) _ MA.out Tryd.underlying26 rfl (by kernel_rfl) ?_)
              refine (HLO.out _).mono ?_
              rintro e w7 ⟨rfl, k7⟩
              have HF7 := Lib.hid (builder_below HFA.out k7)
              have HB7 := Lib.hid (HBA.out.trans (k7.mono (by have := hbw.out; omega)))
              have hs7 := Lib.hid (show b < w7.heap.size by
                rcases HF7.out with ⟨_, v, hv, _⟩ | ⟨_, v, hv, _⟩
                · rcases Nat.lt_or_ge b w7.heap.size with h | h
                  · exact h
                  · rw [Array.getElem?_eq_none h] at hv; cases hv
                · rcases Nat.lt_or_ge b w7.heap.size with h | h
                  · exact h
                  · rw [Array.getElem?_eq_none h] at hv; cases hv)
              have N7 := Lib.hid (Row.new w7 26 (cv [0, 0, 0, 0, 0, 0]))
              have R7 := Lib.hid (N7.out.put (wv F))
              have HF8 := Lib.hid (builder_below HF7.out (Row.put_below ((Below.refl w7.heap.size w7).alloc (Nat.le_refl _) (.cells (cv [0, 0, 0, 0, 0, 0]) 26)) N7.out (Nat.le_refl _) (wv F)))
              have HB8 := Lib.hid (Row.put_below (HB7.out.alloc (by have := hs7.out; omega) (.cells (cv [0, 0, 0, 0, 0, 0]) 26)) N7.out (by have := hs7.out; omega) (wv F))
              clear k7 HFA HBA MA hszA
              go_wp2_with (refine wpList_store_row rfl 26 _ _ rfl (w7.heap.size) _ rfl rfl 26 _ N7.out ?_ ?_ ?_ ?_; kernel_rfl; (first | (rw [wv_size, wv_size]) | kernel_rfl); (first | exact cv_one _ | kernel_rfl))
              obtain ⟨g9, hg9⟩ : ∃ g, g = w7.heap.size := ⟨_, rfl⟩
              have hbg := Lib.hid (show b < g9 by rw [hg9]; exact hs7.out)
              have HST := Lib.hid (show RelT3 b g9 wL S1 F (.int .i64 0) _ from ⟨0, [], F, Nat.zero_le _, rfl, rfl, by rw [hg9]; exact R7.out, HFB.out.1, HFB.out.2, by simp [Int.emod_one], rfl, by simpa using HF8.out, HB8.out⟩)
              rw [← hg9] at HST ⊢
              clear N7 R7 HF8 HB8 HF7 HB7 hs7 hg9
              go_loopw [10] (fun i wx => RelT3 b g9 wL S1 F i wx) (fun i _ => 149 - (intOf i).toNat)
              case atStart => exact HST.out
              case round =>
                clear HST
                obtain ⟨i, q, f, hi9, rfl, hq, hr, hf0, hf1, hfm, hfl, hbd, hl⟩ := hrel
                have hfq : f < 18446744073709551616 ^ 6 := Int.lt_trans hf1 (by decide)
                have hne := neq_null hf0 hfq
                have HR := Lib.hid hr
                have HBD := Lib.hid hbd
                have hsx := hl.size
                by_cases hz : f = 0
                · have hzd : decide (f = 0) = true := by simp [hz]
                  rw [hzd] at hne
                  have hall : fl 149 F = q := by rw [hfl, hz, fl_null, List.append_nil]
                  have hbytes : S1 ++ (if i = 0 then [] else 46 :: q.map asc) = signT n ++ headT H ++ fracT F := by
                    rw [HS1.out]
                    congr 1
                    unfold fracT
                    by_cases hi0 : i = 0
                    · have hq0 : q = [] := List.eq_nil_of_length_eq_zero (by omega)
                      have hF0 : F = 0 := by
                        by_cases hF : F = 0
                        · exact hF
                        · rw [hq0, show (149 : Nat) = 148 + 1 from rfl, fl_succ, if_neg hF] at hall
                          cases hall
                      rw [if_pos hi0, if_pos hF0]
                    · have hF0 : F ≠ 0 := fun h => hi0 (by rw [← hq, ← hall, h, fl_null]; rfl)
                      rw [if_neg hi0, if_neg hF0, hall]
                  rw [hbytes] at hbd
                  have hby := text_bound n HHB.out.1 HFB.out.1 HFB.out.2
                  rw [bc_bytes hby] at hbd
                  have HSTR := Lib.hid (Tryd.Builder_String_any_k b b _ wr hbd (by have := hbw.out; omega))
                  have HBE := Lib.hid hl
                  clear hbd hbytes hall hby hz hzd hfl hfm hf0 hf1 hfq hr hl
                  go_wp2_with (refine wpList_load_row rfl 26 _ rfl (g9) rfl 26 _ (0, 0) _ HR.out Tryd.underlying26 rfl (by kernel_rfl) ?_)
                  refine HSTR.out.mono ?_
                  rintro e we ⟨rfl, hwe⟩
                  go_wp2
                  go_ret
                  rw [HT.out]
                  have hbl2 : w.heap.size ≤ b := by have := BL.out.size; have := hbw.out; omega
                  exact ⟨by simp, BL.out.trans ((HBE.out.trans hwe.2.1).mono hbl2)⟩
                · have hzd : decide (f = 0) = false := by simp [hz]
                  rw [hzd] at hne
                  have hi149 : i < 149 := by
                    rcases Nat.lt_or_ge i 149 with h | h
                    · exact h
                    · obtain rfl : i = 149 := by omega
                      exact absurd (frac_end hf0 hf1 hfm) hz
                  obtain ⟨s1, s2, s3, s4, s5⟩ := frac_step hf0 hf1 hfm hi149
                  have hfl2 : fl 149 F = (q ++ [f * 10 / 2 ^ 149]) ++ fl (149 - (i + 1)) (f * 10 % 2 ^ 149) := by
                    rw [hfl, show 149 - i = (149 - (i + 1)) + 1 by omega, fl_succ, if_neg hz, List.append_assoc]
                    rfl
                  have HNX := Lib.hid (And.intro s3 (And.intro s4 (And.intro s5 hfl2)))
                  have HSD := Lib.hid (And.intro s1 s2)
                  have HI := Lib.hid (And.intro hi149 hq)
                  have HBE := Lib.hid hl
                  have hlq : (S1 ++ (if i = 0 then [] else 46 :: q.map asc)).length ≤ 260 := by
                    split
                    · simp; omega
                    · simp; omega
                  have HLQ := Lib.hid hlq
                  have hlq2 : (S1 ++ 46 :: q.map asc).length ≤ 260 := by simp; omega
                  have HLQ2 := Lib.hid hlq2
                  have hzi := Lib.hid hf0
                  have hf10 : f * 10 < 18446744073709551616 ^ 6 := by
                    have e : (2 : Int) ^ 149 * 10 < 18446744073709551616 ^ 6 := by decide
                    omega
                  have HF10 := Lib.hid hf10
                  clear hz hzd s1 s2 s3 s4 s5 hfl2 hfl hfm hfq hr hbd hlq hlq2 hl hi9 hi149 hq hf0 hf1 hf10
                  go_upto_if 56 with (first | (refine wpList_load_row rfl 26 _ rfl (g9) rfl 26 _ (0, 0) _ HR.out Tryd.underlying26 rfl (by kernel_rfl) ?_) | fail)
                  clear hne
                  go_cut [] from 50 to 66 (fun wx => Lib.IsBuilderF 85 5 b b (bc (S1 ++ 46 :: q.map asc)) wx ∧ Row wx g9 26 (wv f) ∧ Below b wL wx)
                  case first =>
                    by_cases hi0 : i = 0
                    · have hi1 : ((i : Int) == 0) = true := by simp [hi0]
                      have hq0 : q = [] := List.eq_nil_of_length_eq_zero (by have := HI.out.2; omega)
                      have HBB := Lib.hid (show Lib.IsBuilderF 85 5 b b (bc S1) wr by have := HBD.out; rw [if_pos hi0, List.append_nil] at this; exact this)
                      have HQ0 := Lib.hid hq0
                      clear hi0 hq0
                      go_wp2_with fail
                      refine (writeByte b b (bc S1) 46 _ HBB.out (by simp [bc]; omega) (by have := hbw.out; omega)).mono ?_
                      rintro e wy ⟨rfl, h1, h2, h3⟩
                      go_wp2
                      go_meet
                      rw [HQ0.out, show S1 ++ 46 :: List.map asc [] = S1 ++ [46] from rfl, bc_app]
                      exact ⟨.inr h1, row_others h3 HR.out (by have := hbg.out; omega) (by decide), HBE.out.trans h2⟩
                    · have hi1 : ((i : Int) == 0) = false := by simp; omega
                      have HBB := Lib.hid (show Lib.IsBuilderF 85 5 b b (bc (S1 ++ 46 :: q.map asc)) wr by have := HBD.out; rw [if_neg hi0] at this; exact this)
                      clear hi0
                      go_wp2
                      go_meet
                      exact ⟨HBB.out, HR.out, HBE.out⟩
                  case rest =>
                    obtain ⟨hF3, hR3, hB3⟩ := hcut
                    have HF3 := Lib.hid hF3
                    have HR3 := Lib.hid hR3
                    have HB3 := Lib.hid hB3
                    clear hF3 hR3 hB3 HR HBD HBE
                    obtain ⟨wc', hwc'⟩ : ∃ x, x = wc := ⟨_, rfl⟩
                    subst hwc'
                    have htm := timesp g9 f 10 (by omega) (by omega) wc' HR3.out
                    have HTM := Lib.hid htm
                    clear htm
                    obtain ⟨d, hd⟩ : ∃ d, d = f * 10 / 2 ^ 149 := ⟨_, rfl⟩
                    obtain ⟨f2, hf2⟩ : ∃ f2, f2 = f * 10 % 2 ^ 149 := ⟨_, rfl⟩
                    have hdn := fun W => down (f * 10) 149 2 21 (by have := hzi.out; omega) HF10.out (by omega) (by omega) (by omega) W
                    rw [show 64 * 2 + 21 = 149 from rfl, ← hd] at hdn
                    have hlo := fun W => low149 (f * 10) W
                    rw [← hf2] at hlo
                    have hsd := HSD.out
                    have HNX2 := Lib.hid HNX.out
                    rw [← hd, ← hf2] at HNX2
                    rw [← hd] at hsd
                    rw [small_words hsd.1 (by omega)] at hdn
                    have HDN2 := Lib.hid hdn
                    have HLO2 := Lib.hid hlo
                    have hix : ∀ W, (Instr.index 26 (.agg #[.int .u64 d, .int .u64 0, .int .u64 0, .int .u64 0, .int .u64 0, .int .u64 0]) (.int .i64 0)).run Tryd.prog W = .ok (.int .u64 d) W := fun W => by kernel_rfl
                    have e1 : IntKind.u64.wrap (48 + d) = 48 + d := by rw [IntKind.wrap_u64]; omega
                    have e2 : IntKind.u8.wrap (48 + d) = 48 + d := by rw [IntKind.wrap_u8]; omega
                    clear hd hf2 hdn hlo hsd HNX
                    have hib : (i : Int) < 149 := by have := HI.out.1; omega
                    go_wp2_with fail
                    refine HTM.out.mono ?_
                    rintro e wa ⟨c, rfl, hra, hta⟩
                    have HFa := Lib.hid (builder_turn HF3.out hta HR3.out (by decide) (by decide))
                    have HRa := Lib.hid hra
                    have HBa := Lib.hid (HB3.out.trans (hta.to (by have := hbg.out; omega)))
                    clear hra hta HTM HF3 HR3 HB3
                    go_wp2_with (refine wpList_load_row rfl 26 _ rfl (g9) rfl 26 _ (0, 0) _ HRa.out Tryd.underlying26 rfl (by kernel_rfl) ?_)
                    refine (HDN2.out _).mono ?_
                    rintro e wb ⟨rfl, hkb⟩
                    have HFb := Lib.hid (builder_below HFa.out hkb)
                    have HRb := Lib.hid (HRa.out.below hkb HRa.out.lt)
                    have HBb := Lib.hid (HBa.out.trans (hkb.mono (by have := HBa.out.size; have := hbw.out; omega)))
                    clear hkb HFa HRa HBa HDN2
                    go_wp2_with fail
                    refine (writeByte b b _ (48 + d) _ HFb.out (by have := HLQ2.out; simp [bc]; simp at this; omega) (by have := HBb.out.size; have := hbw.out; omega)).mono ?_
                    rintro e wd ⟨rfl, h1, h2, h3⟩
                    have HFd := Lib.hid (show Lib.IsBuilderF 85 5 b b (bc (S1 ++ 46 :: q.map asc ++ [48 + d])) wd by rw [bc_app]; exact .inr h1)
                    have HRd := Lib.hid (row_others h3 HRb.out (by have := hbg.out; omega) (by decide))
                    have HBd := Lib.hid (HBb.out.trans h2)
                    clear h1 h2 h3 HFb HRb HBb e1 e2 hix
                    go_wp2_with (refine wpList_load_row rfl 26 _ rfl (g9) rfl 26 _ (0, 0) _ HRd.out Tryd.underlying26 rfl (by kernel_rfl) ?_)
                    refine (HLO2.out _).mono ?_
                    rintro e wf ⟨rfl, hkf⟩
                    have HFf := Lib.hid (builder_below HFd.out hkf)
                    have HRf := Lib.hid (HRd.out.below hkf HRd.out.lt)
                    have HBf := Lib.hid (HBd.out.trans (hkf.mono (by have := HBd.out.size; have := hbw.out; omega)))
                    have HFg := Lib.hid (builder_turn HFf.out (turn_put HRf.out (wv f2)) HRf.out (by decide) (by decide))
                    have HRg := Lib.hid (HRf.out.put (wv f2))
                    have HBg := Lib.hid (Row.put_below HBf.out HRf.out (by have := hbg.out; omega) (wv f2))
                    clear hkf HFd HRd HBd
                    go_wp2_with (refine wpList_store_row rfl 26 _ _ rfl (g9) _ rfl rfl 26 _ HRf.out ?_ ?_ ?_ ?_; kernel_rfl; (first | (rw [wv_size, wv_size]) | kernel_rfl); (first | exact cv_one _ | kernel_rfl))
                    go_roundw
                    case rel =>
                      refine ⟨i + 1, q ++ [d], f2, HI.out.1, by go_num, by simp [HI.out.2], HRg.out, HNX2.out.1, HNX2.out.2.1, HNX2.out.2.2.1, HNX2.out.2.2.2, ?_, HBg.out⟩
                      rw [if_neg (by omega), List.map_append, show S1 ++ 46 :: (q.map asc ++ [d].map asc) = S1 ++ 46 :: q.map asc ++ [48 + d] by simp [asc]]
                      exact HFg.out
                    case measure => simp [intOf]; have := HI.out.1; omega
    · have hzd : decide (h = 0) = false := by simp [hz]
      obtain ⟨f', rfl⟩ : ∃ f', f = f' + 1 := by
        cases f with
        | zero => exact absurd (show h = 0 by simp at hh1; omega) hz
        | succ f' => exact ⟨f', rfl⟩
      have hd0 : 0 ≤ h % 10 := by omega
      have hd1 : h % 10 < 10 := by omega
      have hov := overp g5 h 10 hh0 hhq (by omega) (by omega) wr hr
      have HOV := Lib.hid hov
      have HEND := Lib.hid (show (p ++ [h % 10]).length + f' = 100 ∧ 0 ≤ h / 10 ∧ h / 10 < 10 ^ f' ∧ h / 10 ≤ H ∧ dl 100 H = (p ++ [h % 10]) ++ dl f' (h / 10) from by
        refine ⟨by simp; omega, by omega, ?_, by omega, ?_⟩
        · rw [Int.pow_succ] at hh1; omega
        · rw [hdl, dl_succ, if_neg hz, List.append_assoc]; rfl)
      have hpl : p.length < 100 := by omega
      have HPL := Lib.hid hpl
      clear hz hdl hh1 hhH hov hr hpf hh0 hhq
      generalize h / 10 = h2 at *
      generalize h % 10 = d at *
      have e1 : IntKind.u64.wrap (48 + d) = 48 + d := by rw [IntKind.wrap_u64]; omega
      have e2 : IntKind.u8.wrap (48 + d) = 48 + d := by rw [IntKind.wrap_u8]; omega
      rw [hzd] at hq
      have HO := Lib.hid hown
      have HTT := Lib.hid ht
      clear hzd hown ht hd0 hd1 hpl
      go_wp2_with (refine wpList_load_row rfl 26 _ rfl (g5) rfl 26 _ (0, 0) _ HR.out Tryd.underlying26 rfl (by kernel_rfl) ?_)
      refine HOV.out.mono ?_
      rintro e wo ⟨rfl, hrv, htv⟩
      have hown2 := own_turn HO.out htv hg53.out
      have hszv := htv.size
      have hszt := HTT.out.size
      have hpl := HPL.out
      have hg5l := hrv.lt
      go_wp2_with (at_builtin; refine wpList_append_own _ rfl _ _ 81 rfl w3.heap.size 5 i0 (.int .u8 0) 1 1 Tryd.underlying81 hi hz0 hz1 hz2 rfl (by decide) _ _ _ rfl (hown2.alloc _) ⟨wo.heap.size, 0, none⟩ 1 1 [.int .u8 (48 + d)] rfl rfl ?c1 ?c2 ?c3 ?c4 ?c5 ?_)
      case c1 =>
        intro j u hj
        match j, hj with
        | 0, hj => simp at hj; subst hj; simp [Addr.add]
      case c2 => intro u hu; simp at hu; subst hu; rfl
      case c3 => unfold maxLen; omega
      case c4 => omega
      case c5 => simp; omega
      intro v' w5 hown' hgrow _
      have ho : w5.ownsRow w3.heap.size 5 1 v' (p ++ [d]).length (bc ((p ++ [d]).map asc)) := by
        rw [List.length_append, List.map_append, show bc (p.map asc ++ [d].map asc) = bc (p.map asc) ++ [.int .u8 (48 + d)] from bc_app _ _]
        exact hown'
      obtain ⟨A', c', rfl⟩ := own_shape ho
      have hr5 : Row w5 g5 26 (wv h2) := (hrv.alloc _).grown hgrow (fun e => by have := (hown2.lt _ e.symm).1; have := hg53.out; omega)
      have ht5 : Turn g5 w3 w5 := by
        have h1 := HTT.out.trans htv
        refine ⟨(h1.1.alloc (by omega) _).grown hgrow (by simp; omega) (fun k hk => by have := (hown2.lt k hk).1; have := hg53.out; omega), fun k hk hn => ?_⟩
        have h2 := hgrow.block k (by simp; omega) (fun e => by have := (hown2.lt k e.symm).1; omega)
        rw [h2, Lib.alloc_old wo _ k (by omega)]
        exact h1.2 k hk hn
      have HO5 := Lib.hid ho
      have HR5 := Lib.hid hr5
      have HT5 := Lib.hid ht5
      clear hown' hgrow hown2 hrv htv ho hr5 ht5 hszv hszt HO HTT HR
      go_wp2
      go_roundw
      case rel => exact ⟨p ++ [d], f', h2, HEND.out.1, HEND.out.2.1, HEND.out.2.2.1, HEND.out.2.2.2.1, HEND.out.2.2.2.2, HO5.out, HR5.out, HT5.out⟩
      case measure => simp [lenOf]; have := HPL.out; omega
end Go.Proofs.YtbbldcbilnkkdaaDoor.Reck
