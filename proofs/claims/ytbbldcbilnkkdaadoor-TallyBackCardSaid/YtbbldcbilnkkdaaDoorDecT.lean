/-
  Reading a sum's text: decimal, told by a plain function. No condition.
-/
import Derived.Test.YtbbldcbilnkkdaaDoorCutT
set_option linter.unusedVariables false
set_option linter.unusedSimpArgs false
namespace Go.Proofs.YtbbldcbilnkkdaaDoor.Parse
open Go.RowKit Go.ChangeShapes Num Tly Ref K Reck

/-- Behind the digits: the sign, the digits, the power, whether it is a number. -/
def finR (ng : Bool) (h tl t : List UInt8) : Bool × List UInt8 × Int × Bool :=
  if h = [] then (ng, h ++ tl, 0 - (tl.length : Int), false)
  else match t with
    | [] => (ng, h ++ tl, 0 - (tl.length : Int), true)
    | c :: t' => if c = 101 ∨ c = 69 then (ng, h ++ tl, (expR t').1 - (tl.length : Int), (expR t').2) else (ng, h ++ tl, 0 - (tl.length : Int), false)
def decR (l : List UInt8) : Bool × List UInt8 × Int × Bool :=
  match (signP l).2.dropWhile isDig with
  | [] => finR (signP l).1 ((signP l).2.takeWhile isDig) [] []
  | c :: t => if c = 46 then (if t.takeWhile isDig = [] then (false, [], 0, false) else finR (signP l).1 ((signP l).2.takeWhile isDig) (t.takeWhile isDig) (t.dropWhile isDig))
    else finR (signP l).1 ((signP l).2.takeWhile isDig) [] (c :: t)
theorem prefix_nil : Lib.hasPrefix [] [46] = false := rfl
theorem prefix_cons (c : UInt8) (t : List UInt8) : Lib.hasPrefix (c :: t) [46] = decide (c = 46) := by
  show ((46 : UInt8) == c && true) = _
  rw [Bool.and_true, Bool.eq_iff_iff, beq_iff_eq, decide_eq_true_eq]
  exact eq_comm
theorem cons_facts (c : UInt8) (t : List UInt8) : (⟨(c :: t).toArray⟩ : ByteArray).toList.isEmpty = false ∧ (⟨(c :: t).toArray⟩ : ByteArray).size = t.length + 1 ∧ (∀ h, (⟨(c :: t).toArray⟩ : ByteArray)[0]'h = c) ∧
    (⟨(c :: t).toArray⟩ : ByteArray).extract 1 (t.length + 1) = ⟨t.toArray⟩ := by
  refine ⟨toList_isEmpty _, Lib.size_mk _, fun h => rfl, ?_⟩
  rw [Lib.extract_mk, List.drop_succ_cons, List.drop_zero, Nat.add_sub_cancel, List.take_of_length_le (Nat.le_refl _)]
theorem exp_bound (l : List UInt8) : -10000 ≤ (expR l).1 ∧ (expR l).1 ≤ 10000 := by
  unfold expR
  split
  · next h =>
    have hb := nval_bound ((signP l).2.takeWhile isDig) (takeWhile_dig _) _ (Nat.le_refl _)
    rw [List.take_of_length_le (Nat.le_refl _)] at hb
    have hp : (10 : Int) ^ ((signP l).2.takeWhile isDig).length ≤ 10000 := by
      have h9 := pow_mono (q := 10) (m := ((signP l).2.takeWhile isDig).length) (n := 4) (by decide) h.2.2
      have h8 : (10 : Int) ^ 4 = 10000 := by decide
      omega
    split <;> simp <;> omega
  · simp
theorem results_tmp4 {fn : Func} {t u v x : Tmp} (h : fn.results = #[.tmp t, .tmp u, .tmp v, .tmp x]) (tmps : Array Value) (P : Program) (w : World) :
    (results fn tmps).run P w = .ok (.tuple #[tmps.getD t undef, tmps.getD u undef, tmps.getD v undef, tmps.getD x undef]) w := by
  simp [results, h]
theorem append_bytes (a b : List UInt8) : (⟨a.toArray⟩ : ByteArray) ++ ⟨b.toArray⟩ = ⟨(a ++ b).toArray⟩ := by
  rw [ByteArray.ext_iff]
  rw [ByteArray.data_append]
  simp
set_option maxRecDepth 100000 in
set_option maxHeartbeats 2000000 in
theorem decimal (l : List UInt8) (hl : l.length ≤ 1000) (w : World) :
    Calls Tryd.prog 38 #[.string ⟨l.toArray⟩] w fun e w' => e = .returned (.tuple #[.bool (decR l).1, .string ⟨(decR l).2.1.toArray⟩, .int .i64 (decR l).2.2.1, .bool (decR l).2.2.2]) ∧ Below w.heap.size w w' := by
  have hsg := sign l hl
  have hrl := Nat.le_trans (signP_len l) hl
  have hct := cut (signP l).2 hrl
  obtain ⟨D, hD⟩ : ∃ D, D = decR l := ⟨_, rfl⟩
  rw [← hD]
  unfold decR at hD
  obtain ⟨ng, hng⟩ : ∃ ng, ng = (signP l).1 := ⟨_, rfl⟩
  obtain ⟨r, hr⟩ : ∃ r, r = (signP l).2 := ⟨_, rfl⟩
  rw [← hng, ← hr] at hD
  rw [← hng, ← hr] at hsg
  rw [← hr] at hct hrl
  have hlen := len_split isDig r
  obtain ⟨h, hh⟩ : ∃ h, h = r.takeWhile isDig := ⟨_, rfl⟩
  obtain ⟨t1, ht1⟩ : ∃ t1, t1 = r.dropWhile isDig := ⟨_, rfl⟩
  rw [← hh, ← ht1] at hct hD hlen
  have HSG := Lib.hid hsg
  have HCT := Lib.hid hct
  clear hsg hct hng hr hh ht1
  have eh : (⟨h.toArray⟩ : ByteArray).toList.isEmpty = h.isEmpty := toList_isEmpty h
  have lh : (⟨h.toArray⟩ : ByteArray).size = h.length := Lib.size_mk h
  have hpre : ∀ (b : Bool), Lib.hasPrefix t1 [46] = b → ∀ W, Calls Tryd.prog 66 #[.string ⟨t1.toArray⟩, .string ⟨#[46]⟩] W fun e w' => e = .returned (.bool b) ∧ w' = W := fun b hb W => hb ▸ Tryd.strings_HasPrefix ⟨t1.toArray⟩ ⟨#[46]⟩ W
  cases t1 with
  | nil =>
    have HPR := Lib.hid (hpre false rfl)
    have happ := append_bytes h []
    rw [List.append_nil] at happ
    obtain ⟨hb, hhb⟩ : ∃ hb, hb = (⟨h.toArray⟩ : ByteArray) := ⟨_, rfl⟩
    rw [← hhb] at eh lh HCT happ
    have HHB := Lib.hid hhb
    clear hhb hpre
    by_cases he : h = []
    · have HD := Lib.hid (show D = (ng, h, 0, false) by rw [hD]; unfold finR; rw [if_pos he, List.append_nil]; rfl)
      rw [he, show ([] : List UInt8).isEmpty = true from rfl] at eh
      clear hD he
      go_enter Tryd.func38, Tryd.ntmps38
      go_wp2_with fail
      refine (HSG.out _).mono ?_
      rintro e w1 ⟨rfl, k1⟩
      have K1 := Lib.hid k1
      clear k1
      go_wp2_with fail
      refine (HCT.out _).mono ?_
      rintro e w2 ⟨rfl, k2⟩
      have K2 := Lib.hid (K1.out.trans (k2.mono K1.out.size))
      clear k2 K1
      go_wp2_with (go_at_call 66; refine (HPR.out _).mono ?_; rintro e w' ⟨rfl, rfl⟩)
      (try simp only [Exit.inBlock, Exit.then])
      refine bodyPost_ret (results_tmp4 rfl _ _ _) rfl ?_
      rw [HD.out]
      exact ⟨by simp [HHB.out], K2.out⟩
    · have HD := Lib.hid (show D = (ng, h, 0, true) by rw [hD]; unfold finR; rw [if_neg he, List.append_nil]; rfl)
      have he2 : h.isEmpty = false := by cases h with | nil => exact absurd rfl he | cons a b => rfl
      rw [he2] at eh
      clear hD he he2
      go_enter Tryd.func38, Tryd.ntmps38
      go_wp2_with fail
      refine (HSG.out _).mono ?_
      rintro e w1 ⟨rfl, k1⟩
      have K1 := Lib.hid k1
      clear k1
      go_wp2_with fail
      refine (HCT.out _).mono ?_
      rintro e w2 ⟨rfl, k2⟩
      have K2 := Lib.hid (K1.out.trans (k2.mono K1.out.size))
      clear k2 K1
      go_wp2_with (go_at_call 66; refine (HPR.out _).mono ?_; rintro e w' ⟨rfl, rfl⟩)
      (try simp only [Exit.inBlock, Exit.then])
      refine bodyPost_ret (results_tmp4 rfl _ _ _) rfl ?_
      rw [HD.out]
      exact ⟨by simp [HHB.out], K2.out⟩
  | cons c t =>
    have hcf := cons_facts c t
    by_cases hc : c = 46
    case neg =>
      have HPR := Lib.hid (hpre false (by rw [prefix_cons, decide_eq_false hc]))
      have happ := append_bytes h []
      rw [List.append_nil] at happ
      simp only [if_neg hc] at hD
      obtain ⟨hb, hhb⟩ : ∃ hb, hb = (⟨h.toArray⟩ : ByteArray) := ⟨_, rfl⟩
      obtain ⟨tb, htb⟩ : ∃ tb, tb = (⟨(c :: t).toArray⟩ : ByteArray) := ⟨_, rfl⟩
      rw [← hhb] at eh lh HCT happ
      rw [← htb] at hcf HCT HPR
      have HHB := Lib.hid hhb
      obtain ⟨f1, f2, f3, f4⟩ := hcf
      obtain ⟨n, hn⟩ : ∃ n, n = t.length + 1 := ⟨_, rfl⟩
      rw [← hn] at f2 f4
      have hn1 : 1 ≤ n := by omega
      have hn2 : (1 : Int) ≤ (n : Int) := by omega
      have hn3 : 0 < n := by omega
      have hex := exponent t (by have := takeWhile_len isDig r; have := dropWhile_len isDig r; simp at hlen; omega)
      have hxb := exp_bound t
      clear hhb htb hn hpre hc
      by_cases he : h = []
      · have HD := Lib.hid (show D = (ng, h, 0, false) by rw [hD]; unfold finR; rw [if_pos he, List.append_nil]; rfl)
        rw [he, show ([] : List UInt8).isEmpty = true from rfl] at eh
        clear hD he
        go_enter Tryd.func38, Tryd.ntmps38
        go_wp2_with fail
        refine (HSG.out _).mono ?_
        rintro e w1 ⟨rfl, k1⟩
        have K1 := Lib.hid k1
        clear k1
        go_wp2_with fail
        refine (HCT.out _).mono ?_
        rintro e w2 ⟨rfl, k2⟩
        have K2 := Lib.hid (K1.out.trans (k2.mono K1.out.size))
        clear k2 K1
        go_wp2_with (go_at_call 66; refine (HPR.out _).mono ?_; rintro e w' ⟨rfl, rfl⟩)
        (try simp only [Exit.inBlock, Exit.then])
        refine bodyPost_ret (results_tmp4 rfl _ _ _) rfl ?_
        rw [HD.out]
        exact ⟨by simp [HHB.out], K2.out⟩
      · have he2 : h.isEmpty = false := by cases h with | nil => exact absurd rfl he | cons a b => rfl
        rw [he2] at eh
        clear he2
        unfold finR at hD
        rw [if_neg he, List.append_nil] at hD
        clear he
        simp only at hD
        by_cases hE : c = 101 ∨ c = 69
        · have HD := Lib.hid (show D = (ng, h, (expR t).1, (expR t).2) by rw [hD, if_pos hE]; simp)
          clear hD
          obtain ⟨X, hX⟩ : ∃ X, X = expR t := ⟨_, rfl⟩
          rw [← hX] at HD hex hxb
          obtain ⟨x, ok⟩ := X
          have hx1 := hxb.1
          have hx2 := hxb.2
          have HEX := Lib.hid hex
          clear hX hxb hex
          by_cases hE1 : c = 101
          · have b1 : (c.toNat : Int) = 101 ∧ ((c.toNat : Int) == 101) = true := byte_is hE1
            obtain ⟨b1, b2⟩ := b1
            clear hE hE1
            go_enter Tryd.func38, Tryd.ntmps38
            go_wp2_with fail
            refine (HSG.out _).mono ?_
            rintro e w1 ⟨rfl, k1⟩
            have K1 := Lib.hid k1
            clear k1
            go_wp2_with fail
            refine (HCT.out _).mono ?_
            rintro e w2 ⟨rfl, k2⟩
            have K2 := Lib.hid (K1.out.trans (k2.mono K1.out.size))
            clear k2 K1
            go_wp2_with (go_at_call 66; refine (HPR.out _).mono ?_; rintro e w' ⟨rfl, rfl⟩)
            refine (HEX.out _).mono ?_
            rintro e w3 ⟨rfl, k3⟩
            have K3 := Lib.hid (K2.out.trans (k3.mono K2.out.size))
            clear k3 K2
            go_wp2
            (try simp only [Exit.inBlock, Exit.then])
            refine bodyPost_ret (results_tmp4 rfl _ _ _) rfl ?_
            rw [HD.out]
            exact ⟨by simp [HHB.out], K3.out⟩
          · have b1 : ¬ (c.toNat : Int) = 101 ∧ ((c.toNat : Int) == 101) = false := byte_not hE1
            obtain ⟨b1, b2⟩ := b1
            have b3 : (c.toNat : Int) = 69 ∧ ((c.toNat : Int) == 69) = true := byte_is (show c = 69 by rcases hE with h | h; exact absurd h hE1; exact h)
            obtain ⟨b3, b4⟩ := b3
            clear hE hE1
            go_enter Tryd.func38, Tryd.ntmps38
            go_wp2_with fail
            refine (HSG.out _).mono ?_
            rintro e w1 ⟨rfl, k1⟩
            have K1 := Lib.hid k1
            clear k1
            go_wp2_with fail
            refine (HCT.out _).mono ?_
            rintro e w2 ⟨rfl, k2⟩
            have K2 := Lib.hid (K1.out.trans (k2.mono K1.out.size))
            clear k2 K1
            go_wp2_with (go_at_call 66; refine (HPR.out _).mono ?_; rintro e w' ⟨rfl, rfl⟩)
            refine (HEX.out _).mono ?_
            rintro e w3 ⟨rfl, k3⟩
            have K3 := Lib.hid (K2.out.trans (k3.mono K2.out.size))
            clear k3 K2
            go_wp2
            (try simp only [Exit.inBlock, Exit.then])
            refine bodyPost_ret (results_tmp4 rfl _ _ _) rfl ?_
            rw [HD.out]
            exact ⟨by simp [HHB.out], K3.out⟩
        · have HD := Lib.hid (show D = (ng, h, 0, false) by rw [hD, if_neg hE]; simp)
          have b1 : ¬ (c.toNat : Int) = 101 ∧ ((c.toNat : Int) == 101) = false := byte_not (fun h => hE (Or.inl h))
          obtain ⟨b1, b2⟩ := b1
          have b3 : ¬ (c.toNat : Int) = 69 ∧ ((c.toNat : Int) == 69) = false := byte_not (fun h => hE (Or.inr h))
          obtain ⟨b3, b4⟩ := b3
          clear hD hE hex hxb
          go_enter Tryd.func38, Tryd.ntmps38
          go_wp2_with fail
          refine (HSG.out _).mono ?_
          rintro e w1 ⟨rfl, k1⟩
          have K1 := Lib.hid k1
          clear k1
          go_wp2_with fail
          refine (HCT.out _).mono ?_
          rintro e w2 ⟨rfl, k2⟩
          have K2 := Lib.hid (K1.out.trans (k2.mono K1.out.size))
          clear k2 K1
          go_wp2_with (go_at_call 66; refine (HPR.out _).mono ?_; rintro e w' ⟨rfl, rfl⟩)
          (try simp only [Exit.inBlock, Exit.then])
          refine bodyPost_ret (results_tmp4 rfl _ _ _) rfl ?_
          rw [HD.out]
          exact ⟨by simp [HHB.out], K2.out⟩
    case pos =>
      have HPR := Lib.hid (hpre true (by rw [prefix_cons, decide_eq_true hc]))
      simp only [if_pos hc] at hD
      obtain ⟨hb, hhb⟩ : ∃ hb, hb = (⟨h.toArray⟩ : ByteArray) := ⟨_, rfl⟩
      obtain ⟨tb, htb⟩ : ∃ tb, tb = (⟨(c :: t).toArray⟩ : ByteArray) := ⟨_, rfl⟩
      have htl1 : t.length ≤ 1000 := by simp at hlen; omega
      have hc2 := cut t htl1
      obtain ⟨f1, f2, f3, f4⟩ := hcf
      have hlen2 := len_split isDig t
      obtain ⟨tl, htl⟩ : ∃ tl, tl = t.takeWhile isDig := ⟨_, rfl⟩
      obtain ⟨t3, ht3⟩ : ∃ t3, t3 = t.dropWhile isDig := ⟨_, rfl⟩
      rw [← htl, ← ht3] at hc2 hD hlen2
      have happ := append_bytes h tl
      have et : (⟨tl.toArray⟩ : ByteArray).toList.isEmpty = tl.isEmpty := toList_isEmpty tl
      have lt : (⟨tl.toArray⟩ : ByteArray).size = tl.length := Lib.size_mk tl
      obtain ⟨lb, hlb⟩ : ∃ lb, lb = (⟨tl.toArray⟩ : ByteArray) := ⟨_, rfl⟩
      rw [← hhb] at eh lh HCT happ
      rw [← htb] at f1 f2 f3 f4 HCT HPR
      rw [← hlb] at et lt hc2 happ
      have HHB := Lib.hid hhb
      obtain ⟨n, hn⟩ : ∃ n, n = t.length + 1 := ⟨_, rfl⟩
      rw [← hn] at f2 f4
      have hn1 : 1 ≤ n := by omega
      have hn2 : (1 : Int) ≤ (n : Int) := by omega
      have hn3 : 0 < n := by omega
      clear hhb htb hlb hn hpre hc htl ht3 f3
      by_cases htn : tl = []
      · have HD := Lib.hid (show D = (false, [], 0, false) by rw [hD, if_pos htn])
        have HC2 := Lib.hid hc2
        rw [htn, show ([] : List UInt8).isEmpty = true from rfl] at et
        clear hD hc2 htn hlen2 happ
        go_enter Tryd.func38, Tryd.ntmps38
        go_wp2_with fail
        refine (HSG.out _).mono ?_
        rintro e w1 ⟨rfl, k1⟩
        have K1 := Lib.hid k1
        clear k1
        go_wp2_with fail
        refine (HCT.out _).mono ?_
        rintro e w2 ⟨rfl, k2⟩
        have K2 := Lib.hid (K1.out.trans (k2.mono K1.out.size))
        clear k2 K1
        go_wp2_with (go_at_call 66; refine (HPR.out _).mono ?_; rintro e w' ⟨rfl, rfl⟩)
        refine (HC2.out _).mono ?_
        rintro e w3 ⟨rfl, k3⟩
        have K3 := Lib.hid (K2.out.trans (k3.mono K2.out.size))
        clear k3 K2
        go_wp2
        (try simp only [Exit.inBlock, Exit.then])
        refine bodyPost_ret (results_tmp4 rfl _ _ _) rfl ?_
        rw [HD.out]
        exact ⟨by simp [HHB.out], K3.out⟩
      · rw [if_neg htn] at hD
        have htn2 : tl.isEmpty = false := by cases tl with | nil => exact absurd rfl htn | cons a b => rfl
        rw [htn2] at et
        have hm1 : (tl.length : Int) ≤ 1000 := by omega
        have hm2 : (0 : Int) ≤ (tl.length : Int) := by omega
        obtain ⟨m, hm⟩ : ∃ m, m = tl.length := ⟨_, rfl⟩
        have hDm : Hid (m = tl.length) := Lib.hid hm
        rw [← hm] at lt hm1 hm2
        clear htn htn2 hm
        unfold finR at hD
        by_cases he : h = []
        · have HD := Lib.hid (show D = (ng, h ++ tl, 0 - (m : Int), false) by rw [hD, if_pos he, hDm.out])
          have HC2 := Lib.hid hc2
          rw [he, show ([] : List UInt8).isEmpty = true from rfl] at eh
          clear hD he hc2 hlen2
          go_enter Tryd.func38, Tryd.ntmps38
          go_wp2_with fail
          refine (HSG.out _).mono ?_
          rintro e w1 ⟨rfl, k1⟩
          have K1 := Lib.hid k1
          clear k1
          go_wp2_with fail
          refine (HCT.out _).mono ?_
          rintro e w2 ⟨rfl, k2⟩
          have K2 := Lib.hid (K1.out.trans (k2.mono K1.out.size))
          clear k2 K1
          go_wp2_with (go_at_call 66; refine (HPR.out _).mono ?_; rintro e w' ⟨rfl, rfl⟩)
          refine (HC2.out _).mono ?_
          rintro e w3 ⟨rfl, k3⟩
          have K3 := Lib.hid (K2.out.trans (k3.mono K2.out.size))
          clear k3 K2
          go_wp2
          (try simp only [Exit.inBlock, Exit.then])
          refine bodyPost_ret (results_tmp4 rfl _ _ _) rfl ?_
          rw [HD.out]
          exact ⟨by simp [HHB.out], K3.out⟩
        · have he2 : h.isEmpty = false := by cases h with | nil => exact absurd rfl he | cons a b => rfl
          rw [he2] at eh
          rw [if_neg he] at hD
          clear he2 he
          cases t3 with
          | nil =>
            have HD := Lib.hid (show D = (ng, h ++ tl, 0 - (m : Int), true) by rw [hD, hDm.out])
            have HC2 := Lib.hid hc2
            clear hD hc2 hlen2
            go_enter Tryd.func38, Tryd.ntmps38
            go_wp2_with fail
            refine (HSG.out _).mono ?_
            rintro e w1 ⟨rfl, k1⟩
            have K1 := Lib.hid k1
            clear k1
            go_wp2_with fail
            refine (HCT.out _).mono ?_
            rintro e w2 ⟨rfl, k2⟩
            have K2 := Lib.hid (K1.out.trans (k2.mono K1.out.size))
            clear k2 K1
            go_wp2_with (go_at_call 66; refine (HPR.out _).mono ?_; rintro e w' ⟨rfl, rfl⟩)
            refine (HC2.out _).mono ?_
            rintro e w3 ⟨rfl, k3⟩
            have K3 := Lib.hid (K2.out.trans (k3.mono K2.out.size))
            clear k3 K2
            go_wp2
            (try simp only [Exit.inBlock, Exit.then])
            refine bodyPost_ret (results_tmp4 rfl _ _ _) rfl ?_
            rw [HD.out]
            exact ⟨by simp [HHB.out], K3.out⟩
          | cons c3 t4 =>
            have hcf3 := cons_facts c3 t4
            obtain ⟨ub, hub⟩ : ∃ ub, ub = (⟨(c3 :: t4).toArray⟩ : ByteArray) := ⟨_, rfl⟩
            rw [← hub] at hcf3 hc2
            obtain ⟨q1, q2, q3, q4⟩ := hcf3
            obtain ⟨n4, hn4⟩ : ∃ n4, n4 = t4.length + 1 := ⟨_, rfl⟩
            rw [← hn4] at q2 q4
            have hp1 : 1 ≤ n4 := by omega
            have hp2 : (1 : Int) ≤ (n4 : Int) := by omega
            have hp3 : 0 < n4 := by omega
            have hex := exponent t4 (by simp at hlen2; omega)
            have hxb := exp_bound t4
            have HC2 := Lib.hid hc2
            clear hub hn4 hc2 hlen2
            simp only at hD
            by_cases hE : c3 = 101 ∨ c3 = 69
            · have HD := Lib.hid (show D = (ng, h ++ tl, (expR t4).1 - (m : Int), (expR t4).2) by rw [hD, if_pos hE, hDm.out])
              clear hD
              obtain ⟨X, hX⟩ : ∃ X, X = expR t4 := ⟨_, rfl⟩
              rw [← hX] at HD hex hxb
              obtain ⟨x, ok⟩ := X
              have hx1 := hxb.1
              have hx2 := hxb.2
              have HEX := Lib.hid hex
              clear hX hxb hex
              by_cases hE1 : c3 = 101
              · have b1 : (c3.toNat : Int) = 101 ∧ ((c3.toNat : Int) == 101) = true := byte_is hE1
                obtain ⟨b1, b2⟩ := b1
                clear hE hE1
                go_enter Tryd.func38, Tryd.ntmps38
                go_wp2_with fail
                refine (HSG.out _).mono ?_
                rintro e w1 ⟨rfl, k1⟩
                have K1 := Lib.hid k1
                clear k1
                go_wp2_with fail
                refine (HCT.out _).mono ?_
                rintro e w2 ⟨rfl, k2⟩
                have K2 := Lib.hid (K1.out.trans (k2.mono K1.out.size))
                clear k2 K1
                go_wp2_with (go_at_call 66; refine (HPR.out _).mono ?_; rintro e w' ⟨rfl, rfl⟩)
                refine (HC2.out _).mono ?_
                rintro e w3 ⟨rfl, k3⟩
                have K3 := Lib.hid (K2.out.trans (k3.mono K2.out.size))
                clear k3 K2
                go_wp2_with fail
                refine (HEX.out _).mono ?_
                rintro e w4 ⟨rfl, k4⟩
                have K4 := Lib.hid (K3.out.trans (k4.mono K3.out.size))
                clear k4 K3
                go_wp2
                (try simp only [Exit.inBlock, Exit.then])
                refine bodyPost_ret (results_tmp4 rfl _ _ _) rfl ?_
                rw [HD.out]
                exact ⟨by simp [HHB.out], K4.out⟩
              · have b1 : ¬ (c3.toNat : Int) = 101 ∧ ((c3.toNat : Int) == 101) = false := byte_not hE1
                obtain ⟨b1, b2⟩ := b1
                have b3 : (c3.toNat : Int) = 69 ∧ ((c3.toNat : Int) == 69) = true := byte_is (show c3 = 69 by rcases hE with h | h; exact absurd h hE1; exact h)
                obtain ⟨b3, b4⟩ := b3
                clear hE hE1
                go_enter Tryd.func38, Tryd.ntmps38
                go_wp2_with fail
                refine (HSG.out _).mono ?_
                rintro e w1 ⟨rfl, k1⟩
                have K1 := Lib.hid k1
                clear k1
                go_wp2_with fail
                refine (HCT.out _).mono ?_
                rintro e w2 ⟨rfl, k2⟩
                have K2 := Lib.hid (K1.out.trans (k2.mono K1.out.size))
                clear k2 K1
                go_wp2_with (go_at_call 66; refine (HPR.out _).mono ?_; rintro e w' ⟨rfl, rfl⟩)
                refine (HC2.out _).mono ?_
                rintro e w3 ⟨rfl, k3⟩
                have K3 := Lib.hid (K2.out.trans (k3.mono K2.out.size))
                clear k3 K2
                go_wp2_with fail
                refine (HEX.out _).mono ?_
                rintro e w4 ⟨rfl, k4⟩
                have K4 := Lib.hid (K3.out.trans (k4.mono K3.out.size))
                clear k4 K3
                go_wp2
                (try simp only [Exit.inBlock, Exit.then])
                refine bodyPost_ret (results_tmp4 rfl _ _ _) rfl ?_
                rw [HD.out]
                exact ⟨by simp [HHB.out], K4.out⟩
            · have HD := Lib.hid (show D = (ng, h ++ tl, 0 - (m : Int), false) by rw [hD, if_neg hE, hDm.out])
              have b1 : ¬ (c3.toNat : Int) = 101 ∧ ((c3.toNat : Int) == 101) = false := byte_not (fun h => hE (Or.inl h))
              obtain ⟨b1, b2⟩ := b1
              have b3 : ¬ (c3.toNat : Int) = 69 ∧ ((c3.toNat : Int) == 69) = false := byte_not (fun h => hE (Or.inr h))
              obtain ⟨b3, b4⟩ := b3
              clear hD hE hex hxb
              go_enter Tryd.func38, Tryd.ntmps38
              go_wp2_with fail
              refine (HSG.out _).mono ?_
              rintro e w1 ⟨rfl, k1⟩
              have K1 := Lib.hid k1
              clear k1
              go_wp2_with fail
              refine (HCT.out _).mono ?_
              rintro e w2 ⟨rfl, k2⟩
              have K2 := Lib.hid (K1.out.trans (k2.mono K1.out.size))
              clear k2 K1
              go_wp2_with (go_at_call 66; refine (HPR.out _).mono ?_; rintro e w' ⟨rfl, rfl⟩)
              refine (HC2.out _).mono ?_
              rintro e w3 ⟨rfl, k3⟩
              have K3 := Lib.hid (K2.out.trans (k3.mono K2.out.size))
              clear k3 K2
              go_wp2
              (try simp only [Exit.inBlock, Exit.then])
              refine bodyPost_ret (results_tmp4 rfl _ _ _) rfl ?_
              rw [HD.out]
              exact ⟨by simp [HHB.out], K3.out⟩
end Go.Proofs.YtbbldcbilnkkdaaDoor.Parse
