/-
  TallyBack: what is added and taken away is gone; a number alone is rounded to itself; texts and bytes lead back. No condition.
-/
import Derived.Test.YtbbldcbilnkkdaaDoorModes
import Derived.Lay
import Derived.Test.YtbbldcbilnkkdaaDoorAwake
import Derived.Test.YtbbldcbilnkkdaaDoorLst
import Derived.Test.YtbbldcbilnkkdaaDoorOwnR
import Derived.Test.YtbbldcbilnkkdaaDoorFromW
import Derived.Test.YtbbldcbilnkkdaaDoorBackP
import Derived.Test.YtbbldcbilnkkdaaDoorByt
set_option linter.unusedVariables false
set_option linter.unusedSimpArgs false
namespace Go.Proofs.YtbbldcbilnkkdaaDoor.tallyBack
open Go.ChangeShapes Go.WideShapes Go.ChangeAt Go.RowKit
open Num Tly Ref K Reck Mono Parse

theorem word_bounds {z : Int} (k : Nat) : 0 ≤ dig 18446744073709551616 z k ∧ dig 18446744073709551616 z k ≤ 18446744073709551615 := by
  have h1 := dig_nonneg q_pos z k
  have h2 := dig_lt q_pos z k
  omega
/-- The six words, written out, with their bounds. -/
theorem lit6b (z : Int) : ∃ a b c d e f : Int, wv z = #[.int .u64 a, .int .u64 b, .int .u64 c, .int .u64 d, .int .u64 e, .int .u64 f] ∧ ∀ x ∈ [a, b, c, d, e, f], 0 ≤ x ∧ x ≤ 18446744073709551615 := by
  refine ⟨_, _, _, _, _, _, rfl, fun x hx => ?_⟩
  simp only [List.mem_cons, List.not_mem_nil, or_false] at hx
  rcases hx with rfl | rfl | rfl | rfl | rfl | rfl <;> exact word_bounds _
/-- The bytes there and back. -/
theorem bytes_back (a0 a1 a2 a3 a4 a5 : Int) (hb : ∀ x ∈ [a0, a1, a2, a3, a4, a5], 0 ≤ x ∧ x ≤ 18446744073709551615) (w : World) :
    Calls Tryd.prog 15 #[.string (Byt.str (Byt.bytesOf [a0, a1, a2, a3, a4, a5] 48))] w fun e w' => e = .returned (.tuple #[.agg #[Value.int .u64 a0, Value.int .u64 a1, Value.int .u64 a2, Value.int .u64 a3, Value.int .u64 a4, Value.int .u64 a5], .int .i64 0]) ∧ Below w.heap.size w w' := by
  refine (Byt.ownFrom _ (by rw [Byt.str_size, Byt.bytesOf_length]) w).mono ?_
  rintro e w' ⟨b0, b1, b2, b3, b4, b5, hacc, rfl, hl⟩
  rw [Byt.back6 _ _ _ _ _ _ hb] at hacc
  injection hacc with h0 hacc
  injection hacc with h1 hacc
  injection hacc with h2 hacc
  injection hacc with h3 hacc
  injection hacc with h4 hacc
  injection hacc with h5 hacc
  subst h0 h1 h2 h3 h4 h5
  exact ⟨rfl, hl⟩
theorem lies_one (W : World) (v : Value) (T : TypeId) : Lies (W.alloc (.cells #[v] T)) (W.alloc (.cells #[v] T)).heap.size (some ⟨W.heap.size, 0, none⟩) 1 [v] :=
  ⟨rfl, fun _ => ⟨_, rfl, by simp, fun j x hx => by
    match j, hx with
    | 0, hx => simp at hx; subst hx; simp [Addr.add]⟩⟩
theorem fin_one (u : Int) (u0 : 0 ≤ u) (u1 : u < 4294967296) (N : Nat) (hN : ([u].filter Lst.good).length = N) (W : World) :
    Calls Tryd.prog 18 #[.slice (some ⟨W.heap.size, 0, none⟩) 1 1] (W.alloc (.cells #[.int .u32 u] 25)) fun e w' => ∃ A cap, e = .returned (.slice A N cap) ∧ Below (W.alloc (.cells #[.int .u32 u] 25)).heap.size (W.alloc (.cells #[.int .u32 u] 25)) w' := by
  refine (Lst.finite _ 1 1 [u] (by decide) (by intro x hx; simp at hx; omega) _ (lies_one W _ _)).mono ?_
  rintro e w' ⟨v, rfl, hown, hb⟩
  rw [hN] at hown
  obtain ⟨A, cap, rfl⟩ := own_shape hown
  exact ⟨A, cap, rfl, hb⟩
theorem of_one (u : Int) (u0 : 0 ≤ u) (u1 : u < 4294967296) (W : World) :
    Calls Tryd.prog 19 #[.slice (some ⟨W.heap.size, 0, none⟩) 1 1] (W.alloc (.cells #[.float .f32 u.toNat] 39)) fun e w' => e = .returned (.tuple #[.agg (wv (addS 0 [u])), .int .i64 (addE [u])]) ∧ Below (W.alloc (.cells #[.float .f32 u.toNat] 39)).heap.size (W.alloc (.cells #[.float .f32 u.toNat] 39)) w' :=
  of _ 1 1 [u] (by decide) (by intro x hx; simp at hx; omega) _ (lies_one W _ _)
def RelM (g b : Nat) (w : World) (L : Array Value) (i : Value) (wr : World) : Prop :=
  ∃ k : Nat, k ≤ 4 ∧ i = .int .i64 k ∧ Row wr b 26 L ∧ Below g w wr
set_option maxRecDepth 100000 in
set_option maxHeartbeats 8000000 in
theorem walk (z u : Int) (h0 : -half ≤ z) (h1 : z < half) (u0 : 0 ≤ u) (u1 : u < 4294967296) (w : World) (hM : Modes w) :
    Calls Tryd.prog 3 #[.agg (wv z), .int .u32 u] w fun e w' => e = .returned (.bool true) ∧ Below w.heap.size w w' := by
  have hq : ∀ (x : Int) (W : World), (binOp .neq 26 (.agg (wv x)) (.agg (wv x))).run Tryd.prog W = .ok (.bool false) W := fun x W => by
    have h := K.neq_ints (P := Tryd.prog) W (t := 26) (e := 22) (n := 6) (k := .u64) (by kernel_rfl) (by kernel_rfl) (by kernel_rfl) (digs 18446744073709551616 x 6) (digs 18446744073709551616 x 6) (digs_length _ _ _) (digs_length _ _ _)
    rw [beq_self_eq_true] at h
    exact h
  have he : ∀ (x : Int) (W : World), (binOp .eql 26 (.agg (wv x)) (.agg (wv x))).run Tryd.prog W = .ok (.bool true) W := fun x W => by
    have h := K.eql_ints (P := Tryd.prog) W (t := 26) (e := 22) (n := 6) (k := .u64) (by kernel_rfl) (by kernel_rfl) (by kernel_rfl) (digs 18446744073709551616 x 6) (digs 18446744073709551616 x 6) (digs_length _ _ _) (digs_length _ _ _)
    rw [beq_self_eq_true] at h
    exact h
  have cN := fun W => neg z W
  have cM := fun W => merge z (-z) W
  rw [show z + -z = 0 by omega] at cM
  have cT := fun W => times z (-1) (by decide) (by decide) W
  rw [show z * -1 = -z by omega] at cT
  have cT3 := fun W => times z 3 (by decide) (by decide) W
  have cM2 := fun W => merge z z W
  have cM3 := fun W => merge (z + z) z W
  rw [show z + z + z = z * 3 by omega] at cM3
  have cX := fun W => text z h0 h1 W
  have cF := fun W => fromText ((textL (decide (z < 0)) (mag z)).map b8) W
  rw [text_back z h0 h1] at cF
  have cP := fun W => put_any z u u0 u1 W
  have q0 := fun W => hq 0 W
  rw [show wv 0 = #[Value.int .u64 0, Value.int .u64 0, Value.int .u64 0, Value.int .u64 0, Value.int .u64 0, Value.int .u64 0] from wv_zero] at q0 cM
  have q1 := fun W => hq (-z) W
  have q3 := fun W => hq (z * 3) W
  have qz := fun W => hq z W
  have ez := fun W => he z W
  obtain ⟨a0, a1, a2, a3, a4, a5, ha, hab⟩ := lit6b z
  have cB := fun W => Byt.ownBytes a0 a1 a2 a3 a4 a5 hab W
  have cFB := fun W => bytes_back a0 a1 a2 a3 a4 a5 hab W
  have hbs : (Byt.str (Byt.bytesOf [a0, a1, a2, a3, a4, a5] 48)).size = 48 := by rw [Byt.str_size, Byt.bytesOf_length]
  obtain ⟨BS, hBS⟩ : ∃ BS, BS = Byt.str (Byt.bytesOf [a0, a1, a2, a3, a4, a5] 48) := ⟨_, rfl⟩
  rw [← hBS] at cB cFB hbs
  obtain ⟨TX, hTX⟩ : ∃ TX, TX = textOf (decide (z < 0)) (mag z) := ⟨_, rfl⟩
  rw [← hTX] at cX
  rw [show (⟨((textL (decide (z < 0)) (mag z)).map b8).toArray⟩ : ByteArray) = TX from hTX.symm] at cF
  rw [ha] at cN cM cT cT3 cM2 cM3 cX cF cP qz ez ⊢
  have CN := Lib.hid cN
  have CM := Lib.hid cM
  have CT := Lib.hid cT
  have CT3 := Lib.hid cT3
  have CM2 := Lib.hid cM2
  have CM3 := Lib.hid cM3
  have CX := Lib.hid cX
  have CF := Lib.hid cF
  have CP := Lib.hid cP
  have CB := Lib.hid cB
  have CFB := Lib.hid cFB
  have HU := Lib.hid (And.intro u0 u1)
  have HM := Lib.hid hM
  have HB3 := Lib.hid hM.1
  have EZ := Lib.hid ez
  have HA := Lib.hid ha
  have QZ := Lib.hid qz
  have HBSZ := Lib.hid hbs
  clear hq he cN cM cT cT3 cM2 cM3 cX cF cP cB cFB u0 u1 hM ez hab hBS hTX h0 h1 ha qz hbs
  go_enter Tryd.func3, Tryd.ntmps3
  go_upto_region 2 with (fail)
  obtain ⟨W0, hW0⟩ : ∃ W0, W0 = ((w.alloc (.cells #[Value.int .u64 a0, Value.int .u64 a1, Value.int .u64 a2, Value.int .u64 a3, Value.int .u64 a4, Value.int .u64 a5] 24)).alloc (.cells #[Value.int .u64 a0, Value.int .u64 a1, Value.int .u64 a2, Value.int .u64 a3, Value.int .u64 a4, Value.int .u64 a5] 26)) := ⟨_, rfl⟩
  have r5 : Row W0 (w.heap.size + 1) 26 #[Value.int .u64 a0, Value.int .u64 a1, Value.int .u64 a2, Value.int .u64 a3, Value.int .u64 a4, Value.int .u64 a5] := by rw [hW0]; exact Row.at (Row.new (w.alloc _) _ _) (by simp)
  have bl : Below w.heap.size w W0 := by rw [hW0]; exact ((Below.refl _ _).alloc (Nat.le_refl _) _).alloc (by simp) _
  rw [← hW0]
  clear hW0
  have A0 := Lib.hid r5
  have L0 := Lib.hid bl
  have HC0 : Hid (∀ w', Below W0.heap.size W0 w' → ∀ o, w'.cell? ⟨w.heap.size + 1, o, none⟩ = (#[Value.int .u64 a0, Value.int .u64 a1, Value.int .u64 a2, Value.int .u64 a3, Value.int .u64 a4, Value.int .u64 a5] : Array Value)[o]?) :=
    Lib.hid (fun w' h => fun o => row_below h A0.out.lt A0.out o)
  have HAW : Hid (∀ w', Below W0.heap.size W0 w' → Calls Tryd.prog 9 #[] w' fun e w'' => e = .returned (.bool true) ∧ Below w'.heap.size w' w'') :=
    Lib.hid (fun w' h => awake w' (HM.out.below (L0.out.trans (h.mono L0.out.size)) HB3.out))
  clear r5 bl
  refine K.region_quiet (C := Below W0.heap.size W0) (by kernel_rfl) (by kernel_rfl) (K.below_draw _) ?_
  iterate 27 (first
    | ((with_reducible refine wpQuiet_step (fun KK hKK => ?_))
       first
         | ((with_reducible refine K.quiet_else ?_ (K.Puts.mk' _) ?_)
            (first | rfl | (simp [Region.wanted, yielded]; done))
            (with_reducible refine hKK _ ?_))
         | ((with_reducible refine K.quiet_if ?_ ?_)
            (first | rfl | (simp [Region.wanted, yielded]; done))
            first
              | (apply K.quiet_val
                 · intro w' hw'; have hcc := HC0.out w' hw'; go_simp; (try go_ints); exact K.Gives.mk' _ _
                 · go_simp; exact K.Puts.mk' _)
              | (apply K.quiet_call
                 · intro w' hw'; have hcc := HC0.out w' hw'; go_simp; (try go_ints); exact K.Enters.mk' _ _ _
                 · intro w' hw'; have hcc := HC0.out w' hw'; first
                   | with_reducible exact K.calls_below hw' hw'.size (HAW.out _ hw')
                   | with_reducible exact K.calls_below hw' hw'.size (CN.out _)
                   | with_reducible exact K.calls_below hw' hw'.size (CM.out _)
                   | with_reducible exact K.calls_below hw' hw'.size (CT.out _)
                   | with_reducible exact K.calls_below hw' hw'.size (CT3.out _)
                   | with_reducible exact K.calls_below hw' hw'.size (CM2.out _)
                   | with_reducible exact K.calls_below hw' hw'.size (CM3.out _)
                   | exact K.calls_below hw' hw'.size (HAW.out _ hw')
                   | exact K.calls_below hw' hw'.size (CN.out _)
                   | exact K.calls_below hw' hw'.size (CM.out _)
                   | exact K.calls_below hw' hw'.size (CT.out _)
                   | exact K.calls_below hw' hw'.size (CT3.out _)
                   | exact K.calls_below hw' hw'.size (CM2.out _)
                   | exact K.calls_below hw' hw'.size (CM3.out _)
                 · go_simp; exact K.Puts.mk' _)
            (with_reducible refine hKK _ ?_))
       clear hKK KK)
    | skip)
  refine wpQuiet_nil ?_
  intro w1 hb1
  have A1 := Lib.hid (A0.out.below hb1 A0.out.lt)
  have L1 := Lib.hid (L0.out.trans (hb1.mono L0.out.size))
  clear hb1 HC0 A0 L0 HAW CN CM CT CT3 CM2 CM3 q0 q1 q3
  go_wp2_with (refine wpList_load_row rfl 26 _ rfl (w.heap.size + 1) rfl 26 _ (0, 0) _ A1.out Tryd.underlying26 rfl (by kernel_rfl) ?_)
  refine (CX.out _).mono ?_
  rintro e w2 ⟨rfl, k2⟩
  have A2 := Lib.hid (A1.out.below k2 A1.out.lt)
  have L2 := Lib.hid (L1.out.trans (k2.mono L1.out.size))
  clear k2 A1 L1 CX
  go_wp2_with fail
  refine (CF.out _).mono ?_
  rintro e w3 ⟨rfl, k3⟩
  have A3 := Lib.hid (A2.out.below k3 A2.out.lt)
  have L3 := Lib.hid (L2.out.trans (k3.mono L2.out.size))
  clear k3 A2 L2 CF
  have A4 := Lib.hid (A3.out.alloc (.cells #[Value.int .u64 a0, Value.int .u64 a1, Value.int .u64 a2, Value.int .u64 a3, Value.int .u64 a4, Value.int .u64 a5] 26))
  have B4 := Lib.hid (Row.new w3 26 #[Value.int .u64 a0, Value.int .u64 a1, Value.int .u64 a2, Value.int .u64 a3, Value.int .u64 a4, Value.int .u64 a5])
  have L4 := Lib.hid (L3.out.alloc L3.out.size (.cells #[Value.int .u64 a0, Value.int .u64 a1, Value.int .u64 a2, Value.int .u64 a3, Value.int .u64 a4, Value.int .u64 a5] 26))
  have hl5 := A3.out.lt
  go_wp2_with (refine wpList_load_row rfl 26 _ rfl (w.heap.size + 1) rfl 26 _ (0, 0) _ A4.out Tryd.underlying26 rfl (by kernel_rfl) ?_)
  refine (CB.out _).mono ?_
  rintro e w5 ⟨rfl, k5⟩
  have A5 := Lib.hid (A4.out.below k5 A4.out.lt)
  have B5 := Lib.hid (B4.out.below k5 B4.out.lt)
  have L5 := Lib.hid (L4.out.trans (k5.mono L4.out.size))
  clear k5 A4 B4 L4 A3 L3 hl5
  go_wp2_with fail
  refine (CFB.out _).mono ?_
  rintro e w6 ⟨rfl, k6⟩
  have A6 := Lib.hid (A5.out.below k6 A5.out.lt)
  have B6 := Lib.hid (B5.out.below k6 B5.out.lt)
  have L6 := Lib.hid (L5.out.trans (k6.mono L5.out.size))
  clear k6 A5 B5 L5 CFB
  have c5 := fun o => row_cell (A6.out.alloc (.cells #[Value.int .u64 a0, Value.int .u64 a1, Value.int .u64 a2, Value.int .u64 a3, Value.int .u64 a4, Value.int .u64 a5] 26)) o
  have c6 := fun o => row_cell (B6.out.alloc (.cells #[Value.int .u64 a0, Value.int .u64 a1, Value.int .u64 a2, Value.int .u64 a3, Value.int .u64 a4, Value.int .u64 a5] 26)) o
  have c8 := fun o => row_cell (Row.new w6 26 #[Value.int .u64 a0, Value.int .u64 a1, Value.int .u64 a2, Value.int .u64 a3, Value.int .u64 a4, Value.int .u64 a5]) o
  have l5 := A6.out.lt
  have l6 := B6.out.lt
  have A7 := Lib.hid (A6.out.alloc (.cells #[Value.int .u64 a0, Value.int .u64 a1, Value.int .u64 a2, Value.int .u64 a3, Value.int .u64 a4, Value.int .u64 a5] 26))
  have L7 := Lib.hid (L6.out.alloc L6.out.size (.cells #[Value.int .u64 a0, Value.int .u64 a1, Value.int .u64 a2, Value.int .u64 a3, Value.int .u64 a4, Value.int .u64 a5] 26))
  have qz := QZ.out
  go_upto_region 6 with (fail)
  go_wp2_with (go_at_call 17; refine (num _ _).mono ?_; rintro e w' ⟨rfl, rfl⟩)
  refine (CB.out _).mono ?_
  rintro e w8 ⟨rfl, k8⟩
  have A8 := Lib.hid (A7.out.below k8 A7.out.lt)
  have L8 := Lib.hid (L7.out.trans (k8.mono L7.out.size))
  clear k8 A7 L7 c5 c6 c8 l5 l6 A6 B6 L6 CB qz
  have hbs := HBSZ.out
  by_cases hf : u / 8388608 % 256 = 255
  case pos =>
    have hN : ([u].filter Lst.good).length = 0 := by simp [Lst.good, hf]
    have hfi := fun W => fin_one u HU.out.1 HU.out.2 0 hN W
    have hof := fun W => of_one u HU.out.1 HU.out.2 W
    rw [show addS 0 [u] = 0 by unfold addS fin; simp [hf], show addE [u] = 16 by unfold addE fin; simp [hf], show wv 0 = #[Value.int .u64 0, Value.int .u64 0, Value.int .u64 0, Value.int .u64 0, Value.int .u64 0, Value.int .u64 0] from wv_zero] at hof
    have hpu := CP.out
    rw [show putv z u = z by unfold putv; rw [if_pos hf], HA.out] at hpu
    have HFI := Lib.hid hfi
    have HOF := Lib.hid hof
    have HPU := Lib.hid hpu
    have HGF := Lib.hid (fun W => Ref.grainFloat u W)
    have EZ2 := EZ.out
    clear hN hfi hof hpu hf CP
    go_wp2_with fail
    refine (HFI.out _).mono ?_
    rintro e w9 ⟨A, cap, rfl, k9⟩
    have k9' := ((Below.refl w8.heap.size w8).alloc (Nat.le_refl _) (.cells #[.int .u32 u] 25)).trans (k9.mono (by simp))
    have A9 := Lib.hid (A8.out.below k9' A8.out.lt)
    have L9 := Lib.hid (L8.out.trans (k9'.mono L8.out.size))
    clear k9 k9' A8 L8
    go_wp2_with (go_at_call 20; refine (HGF.out _).mono ?_; rintro e w' ⟨rfl, rfl⟩)
    refine (HOF.out _).mono ?_
    rintro e w10 ⟨rfl, k10⟩
    have k10' := ((Below.refl w9.heap.size w9).alloc (Nat.le_refl _) (.cells #[.float .f32 u.toNat] 39)).trans (k10.mono (by simp))
    have A10 := Lib.hid ((A9.out.below k10' A9.out.lt).alloc (.cells #[Value.int .u64 0, Value.int .u64 0, Value.int .u64 0, Value.int .u64 0, Value.int .u64 0, Value.int .u64 0] 26))
    have L10 := Lib.hid ((L9.out.trans (k10'.mono L9.out.size)).alloc (Nat.le_trans L9.out.size k10'.size) (.cells #[Value.int .u64 0, Value.int .u64 0, Value.int .u64 0, Value.int .u64 0, Value.int .u64 0, Value.int .u64 0] 26))
    clear k10 k10' A9 L9
    go_upto_region 10 with (fail)
    obtain ⟨W1, hW1⟩ : ∃ W1, W1 = w10.alloc (.cells #[Value.int .u64 0, Value.int .u64 0, Value.int .u64 0, Value.int .u64 0, Value.int .u64 0, Value.int .u64 0] 26) := ⟨_, rfl⟩
    rw [← hW1] at A10 L10 ⊢
    clear hW1
    have HC1 : Hid (∀ w', Below W1.heap.size W1 w' → ∀ o, w'.cell? ⟨w.heap.size + 1, o, none⟩ = (#[Value.int .u64 a0, Value.int .u64 a1, Value.int .u64 a2, Value.int .u64 a3, Value.int .u64 a4, Value.int .u64 a5] : Array Value)[o]?) :=
      Lib.hid (fun w' h => fun o => row_below h A10.out.lt A10.out o)
    have HNU : Hid (∀ x W, Calls Tryd.prog 17 #[.int .i64 x] W fun e w' => e = .returned (.int .i64 x) ∧ Below W.heap.size W w') :=
      Lib.hid (fun x W => (num x W).mono (by rintro e w' ⟨rfl, rfl⟩; exact ⟨rfl, Below.refl _ _⟩))
    refine K.region_quiet (C := Below W1.heap.size W1) (by kernel_rfl) (by kernel_rfl) (K.below_draw _) ?_
    iterate 11 (first
      | ((with_reducible refine wpQuiet_step (fun KK hKK => ?_))
         first
           | ((with_reducible refine K.quiet_else ?_ (K.Puts.mk' _) ?_)
              (first | rfl | (simp [Region.wanted, yielded]; done))
              (with_reducible refine hKK _ ?_))
           | ((with_reducible refine K.quiet_if ?_ ?_)
              (first | rfl | (simp [Region.wanted, yielded]; done))
              first
                | (apply K.quiet_val
                   · intro w' hw'; have hcc := HC1.out w' hw'; go_simp; (try go_ints); exact K.Gives.mk' _ _
                   · go_simp; exact K.Puts.mk' _)
                | (apply K.quiet_call
                   · intro w' hw'; have hcc := HC1.out w' hw'; go_simp; (try go_ints); exact K.Enters.mk' _ _ _
                   · intro w' hw'; have hcc := HC1.out w' hw'; first
                     | with_reducible exact K.calls_below hw' hw'.size (HNU.out _ _)
                     | with_reducible exact K.calls_below hw' hw'.size (HPU.out _)
                     | exact K.calls_below hw' hw'.size (HNU.out _ _)
                     | exact K.calls_below hw' hw'.size (HPU.out _)
                   · go_simp; exact K.Puts.mk' _)
              (with_reducible refine hKK _ ?_))
         clear hKK KK)
      | skip)
    refine wpQuiet_nil ?_
    intro w11 hb11
    have L11 := Lib.hid (L10.out.trans (hb11.mono L10.out.size))
    clear hb11 HC1
    go_wp2
    go_ret
    exact ⟨rfl, L11.out⟩
  case neg =>
    have hN : ([u].filter Lst.good).length = 1 := by simp [Lst.good, hf]
    have hfi := fun W => fin_one u HU.out.1 HU.out.2 1 hN W
    have hof := fun W => of_one u HU.out.1 HU.out.2 W
    rw [one_sum hf, show addE [u] = 0 by unfold addE fin; simp [hf]] at hof
    obtain ⟨f0, f1, f2, f3, f4, f5, hfl⟩ := lit6 (flt u)
    have hrd : ∀ (m : Int), 0 ≤ m → m < 4 → ∀ W, Modes W → Calls Tryd.prog 22 #[.agg #[Value.int .u64 f0, Value.int .u64 f1, Value.int .u64 f2, Value.int .u64 f3, Value.int .u64 f4, Value.int .u64 f5], .int .i64 m] W fun e w' => e = .returned (.tuple #[.float .f32 (if u = 2147483648 then (0 : Int) else u).toNat, .int .i64 0]) ∧ Below W.heap.size W w' := by
      intro m m0 m1 W hM
      obtain ⟨r1, r2, r3⟩ := round_own u m HU.out.1 HU.out.2 hf m0 m1
      have := round (flt u) m r2 r3 W hM
      rw [r1, hfl] at this
      exact this
    rw [hfl] at hof
    have HFI := Lib.hid hfi
    have HOF := Lib.hid hof
    have HRD := Lib.hid hrd
    have HGF := Lib.hid (fun W => Ref.grainFloat u W)
    clear hN hfi hof hrd hf CP hfl
    go_wp2_with fail
    refine (HFI.out _).mono ?_
    rintro e w9 ⟨A, cap, rfl, k9⟩
    have k9' := ((Below.refl w8.heap.size w8).alloc (Nat.le_refl _) (.cells #[.int .u32 u] 25)).trans (k9.mono (by simp))
    have L9 := Lib.hid (L8.out.trans (k9'.mono L8.out.size))
    clear k9 k9' A8 L8
    go_wp2_with (go_at_call 20; refine (HGF.out _).mono ?_; rintro e w' ⟨rfl, rfl⟩)
    refine (HOF.out _).mono ?_
    rintro e w10 ⟨rfl, k10⟩
    have k10' := ((Below.refl w9.heap.size w9).alloc (Nat.le_refl _) (.cells #[.float .f32 u.toNat] 39)).trans (k10.mono (by simp))
    have B10 := Lib.hid (Row.new w10 26 #[Value.int .u64 f0, Value.int .u64 f1, Value.int .u64 f2, Value.int .u64 f3, Value.int .u64 f4, Value.int .u64 f5])
    have L10 := Lib.hid ((L9.out.trans (k10'.mono L9.out.size)).alloc (Nat.le_trans L9.out.size k10'.size) (.cells #[Value.int .u64 f0, Value.int .u64 f1, Value.int .u64 f2, Value.int .u64 f3, Value.int .u64 f4, Value.int .u64 f5] 26))
    clear k10 k10' L9
    go_wp2_with (go_at_call 17; refine (num _ _).mono ?_; rintro e w' ⟨rfl, rfl⟩)
    go_loopw [14, 15, 16, 17] (fun i a b c wr => RelM w.heap.size w10.heap.size w #[Value.int .u64 f0, Value.int .u64 f1, Value.int .u64 f2, Value.int .u64 f3, Value.int .u64 f4, Value.int .u64 f5] i wr) (fun i _ _ _ _ => 4 - (intOf i).toNat)
    case atStart => exact ⟨0, by decide, rfl, B10.out, L10.out⟩
    case round =>
      clear B10 L10
      obtain ⟨k, hk, rfl, hrow, hl⟩ := hrel
      have HR := Lib.hid hrow
      have HL := Lib.hid hl
      clear hrow hl
      rcases Nat.lt_or_ge k 4 with h4 | h4
      · have hki : (k : Int) < 4 := by omega
        have HK := Lib.hid h4
        have hrd := fun W h => HRD.out (k : Int) (by omega) hki W h
        have HRK := Lib.hid hrd
        clear h4 hk hrd
        go_wp2_with (refine wpList_load_row rfl 26 _ rfl (w10.heap.size) rfl 26 _ (0, 0) _ HR.out Tryd.underlying26 rfl (by kernel_rfl) ?_)
        refine (HRK.out _ (HM.out.below HL.out HB3.out)).mono ?_
        rintro e w11 ⟨rfl, k11⟩
        have R11 := Lib.hid (HR.out.below k11 HR.out.lt)
        have L11 := Lib.hid (HL.out.trans (k11.mono HL.out.size))
        clear k11 HR HL HRK
        by_cases hu : u = 2147483648
        · rw [if_pos hu]
          have hbt := fun W => grainBits 0 W
          have HBT := Lib.hid hbt
          have hu1 : (u == 2147483648) = true := by simpa using hu
          clear hbt hu
          go_wp2_with (first | (go_at_call 17; refine (num _ _).mono ?_; rintro e w' ⟨rfl, rfl⟩) | (go_at_call 23; refine (HBT.out _).mono ?_; rintro e w' ⟨rfl, rfl⟩))
          go_roundw
          case rel => exact ⟨k + 1, by have := HK.out; omega, by go_num, R11.out, L11.out⟩
          case measure => simp [intOf]; have := HK.out; omega
        · rw [if_neg hu]
          have hbt := fun W => grainBits u.toNat W
          rw [show ((u.toNat : Nat) : Int) = u by have := HU.out.1; omega] at hbt
          have HBT := Lib.hid hbt
          have hu1 : (u == 2147483648) = false := by simpa using hu
          clear hbt
          go_wp2_with (first | (go_at_call 17; refine (num _ _).mono ?_; rintro e w' ⟨rfl, rfl⟩) | (go_at_call 23; refine (HBT.out _).mono ?_; rintro e w' ⟨rfl, rfl⟩))
          go_roundw
          case rel => exact ⟨k + 1, by have := HK.out; omega, by go_num, R11.out, L11.out⟩
          case measure => simp [intOf]; have := HK.out; omega
      · obtain rfl : k = 4 := by omega
        go_wp2
        go_ret
        exact ⟨rfl, HL.out⟩
def laid1 : List (String × DataW Unit) := [("unicode/utf8.acceptRanges", Rows.laid_unicode_utf8_acceptRanges), ("sluice/tally.modes", Rows.laid_sluice_tally_modes), ("unicode/utf8.first", Rows.laid_unicode_utf8_first)]
def laidKinds1 : List LaidKind := [.data, .data, .pinned]
set_option maxRecDepth 100000 in
theorem modes_of3 {W : World} (h : laidMetH Tryd.prog laid1 W) : Modes W := by
  rw [MakeChecks.laidMetH_plain _ _ _ (by kernel_rfl)] at h
  obtain ⟨ps, ⟨_, _, _, _, _, _, _, _, _, _, hrest, _⟩, _, _⟩ := h
  obtain ⟨g0, t0, cs0, f0, p0, q0, hg0, ht0, hv0, hd0, _, _⟩ := hrest
  obtain rfl := Option.some.inj (Laid.gModes.symm.trans hg0)
  obtain rfl := Option.some.inj (Laid.tModes.symm.trans ht0)
  obtain ⟨xs, m1, rfl, hx1, hlen, hn3, hel⟩ := DataW.trod_array Tryd.underlying140 hd0
  have c3 : Tryd.prog.cellsOf 139 = 3 := by kernel_rfl
  have h0 := hel 0 (by decide)
  have h1 := hel 1 (by decide)
  have h2 := hel 2 (by decide)
  have h3 := hel 3 (by decide)
  simp only [Prod.mk.injEq, DataW.agg.injEq] at hx1
  match xs, hn3, hx1, h0, h1, h2, h3 with
  | [x0, x1, x2, x3], _, hx1, h0, h1, h2, h3 =>
    simp only [Rows.laid_sluice_tally_modes, List.map_cons, List.map_nil, List.cons.injEq] at hx1
    obtain ⟨a0, b0, d0, e0, j0⟩ := Laid.read_mode (show DataW.trod _ Tryd.prog W _ _ _ m1 139 _ = some x0 from h0)
    obtain ⟨a1, b1, d1, e1, j1⟩ := Laid.read_mode (show DataW.trod _ Tryd.prog W _ _ _ m1 139 _ = some x1 from h1)
    obtain ⟨a2, b2, d2, e2, j2⟩ := Laid.read_mode (show DataW.trod _ Tryd.prog W _ _ _ m1 139 _ = some x2 from h2)
    obtain ⟨a3, b3, d3, e3, j3⟩ := Laid.read_mode (show DataW.trod _ Tryd.prog W _ _ _ m1 139 _ = some x3 from h3)
    rw [j0, j1, j2, j3] at hx1
    simp at hx1
    obtain ⟨⟨⟨rfl, rfl, rfl⟩, ⟨rfl, rfl, rfl⟩, ⟨rfl, rfl, rfl⟩, rfl, rfl, rfl⟩, -⟩ := hx1
    rw [c3] at e0 e1 e2 e3
    have get : ∀ (k i : Nat) (a b c : Value), (cs0.toList.drop (k * 3)).take 3 = [a, b, c] → cs0[k * 3 + 0]? = some a ∧ cs0[k * 3 + 1]? = some b ∧ cs0[k * 3 + 2]? = some c := by
      intro k i a b c h
      have h0 := congrArg (fun l => l[0]?) h
      have h1 := congrArg (fun l => l[1]?) h
      have h2 := congrArg (fun l => l[2]?) h
      simp at h0 h1 h2
      exact ⟨by simpa using h0, by simpa using h1, by simpa using h2⟩
    obtain ⟨q0, q1, q2⟩ := get 0 0 _ _ _ e0
    obtain ⟨q3, q4, q5⟩ := get 1 0 _ _ _ e1
    obtain ⟨q6, q7, q8⟩ := get 2 0 _ _ _ e2
    obtain ⟨q9, q10, q11⟩ := get 3 0 _ _ _ e3
    have hcell := fun i => World.var?_cell hg0 hv0 i
    refine ⟨?_, fun i b hb => ?_⟩
    · have := (hcell 0).trans q0
      exact block_lt_of_cell this
    · rw [hcell]
      match i, hb with
      | 0, hb => cases hb; exact q0
      | 1, hb => cases hb; exact q1
      | 2, hb => cases hb; exact q2
      | 3, hb => cases hb; exact q3
      | 4, hb => cases hb; exact q4
      | 5, hb => cases hb; exact q5
      | 6, hb => cases hb; exact q6
      | 7, hb => cases hb; exact q7
      | 8, hb => cases hb; exact q8
      | 9, hb => cases hb; exact q9
      | 10, hb => cases hb; exact q10
      | 11, hb => cases hb; exact q11
      | n + 12, hb => simp [modesL] at hb
theorem own : ownKnob Tryd.prog.godebug = none := by kernel_rfl
theorem door_met (os : Os) (args : Array Value) : laidMetH Tryd.prog laid1 ((World.laidAll Tryd.prog os laid1).forCall (fun _ _ => 0) ⟨#[], args, []⟩).memory :=
  by rw [MakeChecks.laidMetH_plain _ _ _ (by kernel_rfl)]; exact laidMet_laidAll _ (by kernel_rfl) (by kernel_rfl)
set_option maxRecDepth 100000 in
theorem lifted (os : Os) (started : os.Started) (H : Type) (enc : TypeId × Value → H) :
    ReturnsInHanded {} Tryd.checked os 3 .any (fun w args => (Rows.tallyBackSpec.pre enc Tryd.prog Tryd.f3 [] false w args ∧ laidMetH Tryd.prog laid1 w) ∧ sizedMet enc Tryd.prog Tryd.f3 (OpenSpec.ofChange Rows.tallyBackSpec) false w args)
      (Rows.tallyBackSpec.post enc Tryd.prog Tryd.f3 false true false false) := by
  refine returnsInHanded_of_change_and (C := Tryd.checked) (X := fun w _ => laidMetH Tryd.prog laid1 w) (fun _ _ _ hh h => h.of_heap hh) own started (by kernel_rfl) Tryd.func3
    (ChangeSpec.witness_shaped (enc := enc) (C := Tryd.checked) (os := os) (X := fun w _ => laidMetH Tryd.prog laid1 w) false (World.laidAll Tryd.prog os laid1) #[.agg #[.int .u64 0, .int .u64 0, .int .u64 0, .int .u64 0, .int .u64 0, .int .u64 0], .int .u32 0] 8 (World.laidAll_os _ _ _) (World.shaped_of_ZipB (by kernel_rfl) (by kernel_rfl)) (by kernel_rfl) (by kernel_rfl) (by kernel_rfl) (door_met os _)) ?_
  intro W base args ds gs before hval0 hW hcnd hsz0 hL _
  have hsz : (DataW.weightsEach Tryd.prog (Tryd.f3.params.toList ++ Rows.tallyBackSpec.plain.varTypes Tryd.prog) (ds ++ gs)).all (· ≤ reachBytes) = true := hsz0
  have hval : ∀ (j : Nat) t v, Tryd.f3.params[j]? = some t → args[j]? = some v → Value.okWide Tryd.prog W .any base t v := hval0
  have hW' := hW
  obtain ⟨p, q, hA0, hV, rfl, hfz, hnd⟩ := hW
  have hA : DataW.TrodAll enc Tryd.prog W 0 (fun _ => true) true Tryd.f3.params.toList args.toList ds p := hA0
  rw [Tryd.params3] at hA hval hsz
  obtain ⟨v0, vs0, d0, ds0, p0, q0, hargs, rfl, rfl, h0, r0⟩ := trodAll_cons hA
  obtain ⟨v1, vs1, d1, ds1, p1, q1, rfl, rfl, rfl, h1, r1⟩ := trodAll_cons r0
  obtain ⟨rfl, rfl, rfl⟩ := trodAll_nil r1
  obtain rfl : args = #[v0, v1] := by cases args; simp_all
  obtain ⟨rfl, rfl⟩ := trodVars_none hV
  have k0 := h0
  obtain ⟨z0, l0, rfl, w0, rfl⟩ := K.open_array Tryd.underlying24 Tryd.underlying22 (by kernel_rfl) (by kernel_rfl) (hval 0 24 v0 rfl rfl) h0
  obtain ⟨a1, rfl, rfl, rfl, w1⟩ := open_int Tryd.underlying25 (hval 1 25 v1 rfl rfl) h1
  obtain ⟨y0, rfl, a0', b0'⟩ := words_are z0 l0 (fun z hz => bounds_u64 (w0 z hz))
  refine (walk y0 _ a0' b0' (by have := bounds_u32 w1; omega) (by have := bounds_u32 w1; omega) W (modes_of3 hL)).mono fun e W' ⟨he, bel⟩ => ?_
  subst he
  exact ⟨_, rfl, _, _, _, [], _, [], hW', trodAll_mk1 (shut_bool Tryd.underlying4 _), (trodAll_cons_mk (Below.trod (by kernel_rfl) (by kernel_rfl) (of_decide_eq_true (by kernel_rfl)) k0 bel (fun x hx => by cases hx)) (trodAll_cons_mk (shut_int Tryd.underlying25 w1) trodAll_mk0)), rfl, bel.frame _, fun h => by cases h⟩
theorem over : Rows.TallyBackSaid :=
  OpenClaim.holds_of_wide 3 Tryd.f3 rfl rfl rfl rfl rfl rfl rfl ⟨rfl, rfl, rfl, rfl, rfl⟩ rfl rfl rfl rfl rfl (by kernel_rfl) Tryd.func3 (by kernel_rfl)
    (of_decide_eq_true (by kernel_rfl)) (by unfold Func.isWrapper; first | (rw [if_pos (by decide +kernel)]; kernel_rfl) | (rw [if_neg (by decide +kernel)]; exact ⟨rfl, rfl⟩))
    (fun os started H enc _ => lifted os started H enc)
/-- The tied card. -/
theorem proved : Rows.TallyBackCardSaid :=
  Claim7.holds_tied_plain_at .later [] laidKinds1 true Rows.tallyBackCard.stood.harness false
    over (fun _ h => by cases h) (by kernel_rfl) (fun _ h => by cases h) tallyBack_row_tie rfl ⟨rfl, rfl⟩ (by kernel_rfl) rfl
    (fun f fn hf hfn => by
      obtain rfl : f = 3 := Option.some.inj ((show Tryd.prog.funcNamed "sluice/sluicelaw02.TallyBack" = some 3 by kernel_rfl).symm.trans hf) |>.symm
      obtain rfl : fn = Tryd.f3 := (Option.some.inj (Tryd.func3.symm.trans hfn)).symm
      exact ⟨by kernel_rfl, fun j t ht => by
        rw [Tryd.params3] at ht
        have hm : t ∈ [24, 25] := by simpa using Array.mem_of_getElem? ht
        have hall : ([24, 25].all fun u => !Tryd.prog.wantsStandIn u) = true := by kernel_rfl
        exact (show Tryd.prog.wantsStandIn t = false by simpa using List.all_eq_true.1 hall t hm)⟩)
    (by kernel_rfl)
#print axioms proved
end Go.Proofs.YtbbldcbilnkkdaaDoor.tallyBack
