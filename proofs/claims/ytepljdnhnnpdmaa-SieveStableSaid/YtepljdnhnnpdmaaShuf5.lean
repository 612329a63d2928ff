/-
  The program's shuffle, walked: where it is let by. No condition.
-/
import Derived.Test.YtepljdnhnnpdmaaShuf4
import Derived.Deep.QuietTactic
import Derived.BigQuiet
set_option linter.unusedVariables false
set_option linter.unusedSimpArgs false
namespace Go.Proofs.Ytepljdnhnnpdmaa.Shuf
open Go.RowKit Go.Shelf Go.ChangeShapes Go.WideShapes Go.ChangeAt K Desk Cut Radix

theorem bucket_len {p : U3 → Nat} {B : Nat} {L : List U3} (h : ∀ x ∈ L, p x < B) : (bucket p B L).length = L.length := by rw [bucket_length, below_all p L B h]
/-- One stage more. -/
theorem stage' (n kk q r : Int) (hg : Cut.Good n kk q r) (u fan : Nat) (hu : 1 ≤ u) (hu2 : u ≤ 262144) (h3 : 2 ≤ fan) (h4 : fan ≤ 256) (Af At : Option Addr) (gf gt capF capT capf capt : Nat) (L T : List U3) (restf restt : List Value)
    (hTl : T.length = L.length) (hm : L.length * 24 ≤ 140737488351232) (hin : ∀ x ∈ L, 0 ≤ Cut.part n q r x.t ∧ Cut.part n q r x.t ≤ 512) (hAf : L ≠ [] → Af = some ⟨gf, 0, none⟩) (hAt : L ≠ [] → At = some ⟨gt, 0, none⟩) (hne : L ≠ [] → gf ≠ gt)
    (w : World) (hF : Pre w gf 55 capF (ucs (bucket (fun x => pn n q r x % u) u L) ++ restf)) (hT : Pre w gt 55 capT (ucs T ++ restt)) :
    Calls Try.prog 65 #[.slice Af L.length capf, .slice At L.length capt, .int .i64 u, .int .i64 fan, pf n kk q r] w (StageAt gt capT (bucket (fun x => pn n q r x % (fan * u)) (fan * u) L) restt w) ∧ (bucket (fun x => pn n q r x % u) u L).length = L.length := by
  have hl : (bucket (fun x => pn n q r x % u) u L).length = L.length := bucket_len fun x _ => Nat.mod_lt _ (by omega)
  have hnil : bucket (fun x => pn n q r x % u) u L ≠ [] → L ≠ [] := fun h e => h (by rw [e]; simp [bucket])
  have := stage n kk q r hg u fan hu hu2 h3 h4 Af At gf gt capF capT capf capt (bucket (fun x => pn n q r x % u) u L) T restf restt (by rw [hl]; exact hTl) (by rw [hl]; exact hm) (fun x hx => hin x (mem_bucket hx)) (fun h => hAf (hnil h)) (fun h => hAt (hnil h)) (fun h => hne (hnil h)) w hF hT
  rw [hl] at this
  rw [show dg n q r u fan = (fun x => pn n q r x / u % fan) from rfl, bucket_bucket (pn n q r) u fan (by omega) L] at this
  exact ⟨this, hl⟩
set_option maxRecDepth 100000 in
set_option maxHeartbeats 4000000 in
theorem shuffle (n kk q r : Int) (hg : Cut.Good n kk q r) (k fan : Nat) (h1 : 1 ≤ k) (h2 : k ≤ 512) (h3 : 2 ≤ fan) (h4 : fan ≤ 256) (Af Ab : Option Addr) (ga gb capA capB capf mb capb : Nat) (L T : List U3) (resta restb : List Value)
    (hTl : T.length = L.length) (hm : L.length * 24 ≤ 140737488351232) (hmb : L.length ≤ mb) (hmc : mb ≤ capb) (hAf : L ≠ [] → Af = some ⟨ga, 0, none⟩) (hAb : L ≠ [] → Ab = some ⟨gb, 0, none⟩) (hne : ga ≠ gb) (hA0 : Ab = none → mb = 0 ∧ capb = 0)
    (w : World) (hA : Pre w ga 55 capA (ucs L ++ resta)) (hB : Pre w gb 55 capB (ucs T ++ restb)) :
    Calls Try.prog 32 #[.slice Af L.length capf, .slice Ab mb capb, .int .i64 k, .int .i64 fan, pf n kk q r] w
      (ShufAt n q r k fan L (.slice Af L.length capf) (.slice Ab L.length L.length) ga gb capA capB resta restb w) := by
  obtain ⟨i0, hi, hz0, hz1, hz2⟩ := info_parts infoI'
  obtain ⟨k1, hk1⟩ : ∃ k1, k1 = k + 1 := ⟨_, rfl⟩
  have hmk := fun W => Case.make_one (P := Try.prog) W .i64 59 3 i0 (.int .i64 0) rfl Try.underlying59 hi hz0 hz1 k1 (by rw [hz2]; omega) (by omega)
  have hf := Lib.hid (fun W => stagesYes k fan h1 h2 h3 h4 W)
  have hga := Pre.lt hA
  have hgb := Pre.lt hB
  have HA := Lib.hid hA
  have HB := Lib.hid hB
  have HN := Lib.hid (And.intro hAf (And.intro hAb hne))
  have hby := Lib.hid (fun x W => byU n kk q r x hg W)
  have HG := Lib.hid hg
  have hb : decide (mb < L.length) = false := decide_eq_false (by omega)
  clear hA hB hAf hAb hne hg
  unfold pf rg
  have hnil := fun W => by exact (show (binOp .eql 52 (.func (.func 30) #[.agg #[.int .u32 n, .int .u32 kk, .int .u32 q, .int .u32 r]] #[]) .nilFunc).run Try.prog W = .ok (.bool false) W by kernel_rfl)
  have hgd := fun (x y : Operand) (W : World) => by exact (show (eqGuard .eql 52 x y (.func (.func 30) #[.agg #[.int .u32 n, .int .u32 kk, .int .u32 q, .int .u32 r]] #[]) .nilFunc).run Try.prog W = .ok () W by kernel_rfl)
  go_enter Try.func32, Try.ntmps32
  go_wp2_with fail
  go_step3
  go_wp2_with fail
  refine (hf.out _).mono ?_
  rintro e w1 ⟨s, rfl, hs, rfl⟩
  have HS := Lib.hid hs
  clear hs
  have hk2 : (k : Int) + 1 = (k1 : Int) := by omega
  have HK := Lib.hid hk1
  clear hk1
  go_wp2
  go_loopw [46] (fun i wr => RelN n q r k L w i wr) (fun i _ => L.length - (intOf i).toNat)
  case atStart => exact ⟨0, Nat.zero_le _, rfl, fun x hx => by simp at hx, by rw [List.take_zero, cntsN_nil, ← HK.out]; simpa using Row.new w 3 (List.replicate k1 (Value.int .i64 0)).toArray, by simpa using (Below.refl w.heap.size w).alloc (Nat.le_refl _) (.cells (List.replicate k1 (Value.int .i64 0)).toArray 3)⟩
  case round =>
    obtain ⟨j, hj, rfl, hok, hC, hl⟩ := hrel
    clear hnil hgd hmk
    rcases Nat.lt_or_ge j L.length with h6 | h6
    · obtain ⟨x, hx⟩ : ∃ x, L[j]? = some x := ⟨_, List.getElem?_eq_getElem h6⟩
      have hne0 : L ≠ [] := fun e => by rw [e] at h6; cases h6
      obtain rfl := HN.out.1 hne0
      have hkb : decide ((j : Int) < (L.length : Int)) = true := decide_eq_true (by omega)
      obtain ⟨c0, c1, c2⟩ := Pre.upd (HA.out.below hl hga) hx
      have hgf1 : ga < wr.heap.size := Nat.lt_of_lt_of_le hga hl.size
      have hbx := Lib.hid (hby.out x)
      have R0 := Lib.hid (hC.alloc (.cells (ua x) 55))
      have B0 := Lib.hid (hl.alloc hl.size (.cells (ua x) 55))
      unfold ua at R0 B0
      have hgw : w.heap.size < wr.heap.size := hC.lt
      have hxm := List.mem_of_getElem? hx
      have htk : L.take (j + 1) = L.take j ++ [x] := by
        obtain ⟨hj', e⟩ := List.getElem?_eq_some_iff.1 hx
        rw [List.take_succ_eq_append_getElem hj', e]
      by_cases hbad : okP n q r k x
      · have hokn : ∀ y ∈ L.take (j + 1), okP n q r k y := fun y hy => by
          rw [htk] at hy
          rcases List.mem_append.1 hy with hy | hy
          · exact hok y hy
          · rw [List.mem_singleton.1 hy]; exact hbad
        obtain ⟨hp0, hp1⟩ := hbad
        obtain ⟨p, hp⟩ : ∃ p : Nat, Cut.part n q r x.t = p := ⟨(Cut.part n q r x.t).toNat, by omega⟩
        rw [hp] at hp1 hbx
        have hpn : pn n q r x = p := by unfold pn; rw [hp, Int.toNat_natCast]
        have hpk : p < k := by omega
        have hstep := cntsN_snoc (N := k + 1) (pn n q r) (L.take j) x (by omega)
        rw [← htk] at hstep
        have hcl : cnt (pn n q r) (L.take j) (pn n q r x) ≤ L.length := Nat.le_trans (List.length_filter_le _ _) (by rw [List.length_take]; omega)
        have hcg := cntsN_get (N := k + 1) (pn n q r) (L.take j) (d := pn n q r x) (by omega)
        obtain ⟨cc, hcc⟩ : ∃ cc, cnt (pn n q r) (L.take j) (pn n q r x) = cc := ⟨_, rfl⟩
        rw [hcc] at hstep hcl hcg
        rw [hpn] at hstep hcg
        have HSS := Lib.hid (And.intro hstep (And.intro hcg hokn))
        have d1 : decide ((p : Int) < 0) = false := decide_eq_false (by omega)
        have d2 : decide ((k : Int) ≤ (p : Int)) = false := decide_eq_false (by omega)
        have d3 : decide (k ≤ p) = false := decide_eq_false (by omega)
        have hpi : (p : Int) + 1 < (k1 : Int) := by omega
        clear hx hne0 hp0 hp hpn hstep htk hcc hcg hC hl hokn hok hxm
        go_wp2_with fail
        refine (hbx.out _).mono ?_
        rintro e w1 ⟨rfl, hb⟩
        have R1 := R0.out.below hb (by simp only [World.size_alloc]; omega)
        have B1 := B0.out.trans (hb.mono (by simp only [World.size_alloc]; omega))
        have q0 := ic_get R1 HSS.out.2.1
        have f0 := R1.free (p + 1)
        have RZ := Lib.hid (ic_set R1 (p + 1) (cc + 1))
        have BZ := Lib.hid (B1.setCell (p := ⟨w.heap.size, p + 1, none⟩) (Nat.le_refl _) (.int .i64 ((cc + 1 : Nat) : Int)))
        clear R1 B1 hb c0 c1 c2
        go_wp2
        go_roundw
        case rel => exact ⟨j + 1, by omega, by go_num, HSS.out.2.2, by rw [HSS.out.1]; exact RZ.out, BZ.out⟩
        case measure => simp [intOf]; omega
      · have HBD := Lib.hid (show ∃ x ∈ L, ¬ okP n q r k x from ⟨x, hxm, hbad⟩)
        unfold okP at hbad
        obtain ⟨p, hp⟩ : ∃ p, Cut.part n q r x.t = p := ⟨_, rfl⟩
        rw [hp] at hbad hbx
        by_cases hp0 : p < 0
        · have d1 : decide (p < 0) = true := decide_eq_true hp0
          clear hx hne0 hp htk hC hl hok hxm hbad
          go_wp2_with fail
          refine (hbx.out _).mono ?_
          rintro e w1 ⟨rfl, hb⟩
          have B1 := Lib.hid (B0.out.trans (hb.mono (by simp only [World.size_alloc]; omega)))
          clear hb c0 c1 c2
          go_wp2
          rw [Exit.noGoto_ret]
          go_ret3
          exact .inl ⟨HBD.out, rfl, B1.out⟩
        · have d1 : decide (p < 0) = false := decide_eq_false hp0
          have hpk : (k : Int) ≤ p := by omega
          have d2 : decide ((k : Int) ≤ p) = true := decide_eq_true hpk
          clear hx hne0 hp htk hC hl hok hxm hbad
          go_wp2_with fail
          refine (hbx.out _).mono ?_
          rintro e w1 ⟨rfl, hb⟩
          have B1 := Lib.hid (B0.out.trans (hb.mono (by simp only [World.size_alloc]; omega)))
          clear hb c0 c1 c2
          go_wp2
          rw [Exit.noGoto_ret]
          go_ret3
          exact .inl ⟨HBD.out, rfl, B1.out⟩
    · obtain rfl : j = L.length := by omega
      have hkb : decide ((L.length : Int) < (L.length : Int)) = false := by simp
      rw [List.take_length] at hC hok
      have hkeyl : ∀ v, cnt (pn n q r) L v ≤ L.length ∧ below (pn n q r) L v ≤ L.length := fun v => ⟨List.length_filter_le _ _, List.length_filter_le _ _⟩
      have HKL := Lib.hid hkeyl
      have HC := Lib.hid hC
      have HOK := Lib.hid hok
      clear hC hkeyl hok
      go_wp2
      go_loopw [69] (fun i wr => RelM n q r k L w i wr) (fun i _ => k - (intOf i).toNat)
      case atStart => exact ⟨0, Nat.zero_le _, rfl, by rw [sumsN_zero]; exact HC.out, hl⟩
      case round =>
        clear HC hl
        obtain ⟨i, hi, rfl, hD, hl⟩ := hrel
        rename World => wr
        rcases Nat.lt_or_ge i k with h7 | h7
        · have hkb2 : decide ((i : Int) < (k : Int)) = true := decide_eq_true (by omega)
          obtain ⟨g0, g1⟩ := sumsN_get (N := k + 1) (pn n q r) L (m := i) (by omega)
          have c0 := ic_get hD g0
          have c1 := ic_get hD g1
          have hs := sumsN_succ (N := k + 1) (pn n q r) L (m := i) (by omega)
          obtain ⟨b1, b2⟩ := HKL.out i
          obtain ⟨x, hx⟩ : ∃ x, cnt (pn n q r) L i = x := ⟨_, rfl⟩
          obtain ⟨y, hy⟩ : ∃ y, below (pn n q r) L i = y := ⟨_, rfl⟩
          rw [hx] at c1 hs b1
          rw [hy] at c0 hs b2
          have f1 := hD.free (i + 1)
          have RZ := Lib.hid (show Row _ _ _ _ from (ic_set hD (i + 1) (x + y)).drew)
          have BZ := Lib.hid ((hl.setCell (p := ⟨w.heap.size, i + 1, none⟩) (Nat.le_refl _) (.int .i64 ((x + y : Nat) : Int))).drew)
          have HSM := Lib.hid hs
          have hsw := hD.lt
          have hk1e := HK.out
          have hi0 : (0 : Int) ≤ (i : Int) := by omega
          have hi1 : (i : Int) < (k1 : Int) := by omega
          have hv0 : IntKind.i64.wrap ((i : Int) + 1) = (i : Int) + 1 := IntWalk.i64_in _ ⟨by omega, by omega⟩
          have hv1 : (0 : Int) ≤ (i : Int) + 1 := by omega
          have hv2 : (i : Int) + 1 < (k1 : Int) := by omega
          have hv3 : ((i : Int) + 1).toNat = i + 1 := by omega
          have hv4 : IntKind.i64.wrap ((x : Int) + (y : Int)) = (x : Int) + (y : Int) := IntWalk.i64_in _ ⟨by omega, by omega⟩
          clear hD hl hs hx hy g0 g1 hk1e
          go_wp2
          refine K.region_tail 11 (by kernel_rfl) (by kernel_rfl) ?_
          simp only [List.take_succ_cons, List.take_zero, List.drop_succ_cons, List.drop_zero]
          iterate 12 (first
            | ((with_reducible refine wpStill_step (fun KK hKK => ?_))
               first
                 | ((with_reducible refine K.still_else ?_ (K.Puts.mk' _) ?_)
                    (first | rfl | (simp [Region.wanted, yielded]; done))
                    (with_reducible refine hKK _ ?_))
                 | ((with_reducible refine K.still_if ?_ ?_)
                    (first | rfl | (simp [Region.wanted, yielded]; done))
                    apply K.still_val
                    · go_simp; (try go_ints); exact K.Gives.mk' _ _
                    · go_simp; exact K.Puts.mk' _
                    (with_reducible refine hKK _ ?_))
               clear hKK KK)
            | skip)
          refine wpStill_nil ?_
          go_wp2
          go_roundw
          case rel => exact ⟨i + 1, by omega, by go_num, by rw [HSM.out]; exact RZ.out, BZ.out⟩
          case measure => simp [intOf]; omega
        · obtain rfl : k = i := by omega
          have hkb2 : decide ((k : Int) < (k : Int)) = false := by simp
          rw [sumsN_all] at hD
          have HD := Lib.hid hD
          clear hD
          have hcp : (L.length : Int) ≤ (capb : Int) := by omega
          have hl0 : (0 : Int) ≤ (L.length : Int) := by omega
          go_wp2
          go_quiet (fail)
          go_wp2_with fail
          go_step3
          go_wp2_with fail
          have hT3 : Turns (fun k => k = ga ∨ k = gb) w wr := ⟨hl.1, hl.mono (Nat.zero_le _), fun k hk hn => hl.block k hk⟩
          have hgaw : ga < wr.heap.size := by have := hl.size; omega
          have hgbw : gb < wr.heap.size := by have := hl.size; omega
          have HA3 := Lib.hid (HA.out.below hl hga)
          have HB3 := Lib.hid (HB.out.below hl hgb)
          have HT3 := Lib.hid hT3
          have hwl : w.heap.size < wr.heap.size := HD.out.lt
          clear hT3 hl
          generalize hWr : wr.drewN _ = W3
          have hW3 : W3.heap = wr.heap := by rw [← hWr]; rfl
          have HA4 := Lib.hid (HA3.out.same (W' := W3) (by rw [hW3]))
          have HB4 := Lib.hid (HB3.out.same (W' := W3) (by rw [hW3]))
          have HT4 := Lib.hid (show Turns (fun k => k = ga ∨ k = gb) w W3 from hWr ▸ HT3.out.drewN _)
          have HD4 := Lib.hid (show Row W3 w.heap.size 3 (ic (starts (pn n q r) L k)) by
            have := HD.out
            unfold Row at this ⊢
            rw [hW3]; exact this)
          clear hWr hW3
          go_loopw [13, 19, 20, 21] (fun st fr to_ un wr => RelG n q r fan s L (.slice Af L.length capf) (.slice Ab L.length L.length) ga gb capA capB resta restb W3 st fr to_ un wr) (fun st _ _ _ _ => (intOf st).toNat)
          case atStart =>
            refine ⟨0, T, Nat.zero_le _, hTl, rfl, by simp, .inl ⟨rfl, rfl, rfl, ?_, HB4.out⟩, Turns.refl _ _⟩
            rw [Nat.pow_zero, bucket_one]
            exact HA4.out
          case round =>
            obtain ⟨i, T', hi, hTl', rfl, rfl, hH, hTu⟩ := hrel
            rename World => w5
            have hst := HS.out
            have hszu := hTu.size
            rcases Nat.lt_or_ge i s with h8 | h8
            · obtain ⟨u, hue⟩ : ∃ u, fan ^ i = u := ⟨_, rfl⟩
              have huk : u < k := hue ▸ hst.2 i h8
              have hu1 : 1 ≤ u := by rw [← hue]; exact Nat.pow_pos (by omega)
              have hmul : (u : Int) * (fan : Int) = ((u * fan : Nat) : Int) := by push_cast; rfl
              have hmb2 : u * fan ≤ 512 * 256 := Nat.mul_le_mul (by omega) h4
              have hnx : fan ^ (i + 1) = fan * u := by rw [Nat.pow_succ, hue, Nat.mul_comm]
              have hin : ∀ x ∈ L, 0 ≤ Cut.part n q r x.t ∧ Cut.part n q r x.t ≤ 512 := fun x hx => by
                obtain ⟨a, b⟩ := HOK.out x hx
                exact ⟨a, by omega⟩
              obtain ⟨y, hy⟩ : ∃ y, u * fan = y := ⟨_, rfl⟩
              obtain ⟨d, hd⟩ : ∃ d, s - i = d := ⟨_, rfl⟩
              have hd0 : ((d : Int) == 0) = false := by simp; omega
              have hdl : d ≤ k := by
                have h9 : ∀ t : Nat, t < s → t < fan ^ t := fun t _ => Nat.lt_pow_self (by omega)
                rcases Nat.eq_zero_or_pos s with e | e
                · omega
                · have g1 := hst.2 (s - 1) (by omega)
                  have g2 : s - 1 < fan ^ (s - 1) := Nat.lt_pow_self (by omega)
                  omega
              have hd1 : 1 ≤ d := by omega
              rw [hy] at hmul hmb2
              have hdn : (d : Int) - 1 = ((s - (i + 1) : Nat) : Int) := by omega
              unfold Half at hH
              rw [hue] at hH ⊢
              rw [hd]
              have hyu : fan ^ (i + 1) = y := by rw [hnx, Nat.mul_comm, hy]
              have HN2 := Lib.hid (And.intro hnx (And.intro hyu hdn))
              have HTl := Lib.hid hTl'
              have HIN := Lib.hid hin
              have HTu := Lib.hid hTu
              clear hue hnx hyu hy hd hdn hst hin hTu
              rcases hH with ⟨hp, rfl, rfl, hPF, hPT⟩ | ⟨hp, rfl, rfl, hPF, hPT⟩
              · have hstg := Lib.hid (stage' n kk q r HG.out u fan hu1 (by omega) h3 h4 Af Ab ga gb capA capB capf L.length L T' resta restb HTl.out hm HIN.out HN.out.1 HN.out.2.1 (fun _ => HN.out.2.2) w5 hPF hPT).1
                unfold pf rg at hstg
                have HPF := Lib.hid (And.intro hp (And.intro hPF (Pre.lt hPF)))
                have hgbl : ga < w5.heap.size := Pre.lt hPF
                clear hp hPF hPT hTl'
                go_wp2_with fail
                refine hstg.out.mono ?_
                rintro e w6 ⟨rfl, hP6, hT6⟩
                have HX := Lib.hid (show Half n q r fan (i + 1) L (bucket (fun x => pn n q r x % u) u L) (.slice Af L.length capf) (.slice Ab L.length L.length) (.slice Ab L.length L.length) (.slice Af L.length capf) ga gb capA capB resta restb (.slice Ab L.length L.length) (.slice Af L.length capf) w6 from by
                  refine .inr ⟨by have := HPF.out.1; omega, rfl, rfl, by rw [HN2.out.1]; exact hP6, ?_⟩
                  exact HPF.out.2.1.same (hT6.block ga HPF.out.2.2 HN.out.2.2))
                have HT6 := Lib.hid (HTu.out.trans (hT6.more (S' := fun k => k = ga ∨ k = gb) (fun k h => .inr h)))
                have HL6 := Lib.hid (bucket_len (p := fun x => pn n q r x % u) (B := u) (L := L) (fun x _ => Nat.mod_lt _ (by omega)))
                clear hP6 hT6
                go_wp2
                go_roundw
                case rel => exact ⟨i + 1, _, by omega, HL6.out, by rw [← HN2.out.2.2], by rw [HN2.out.2.1], HX.out, HT6.out⟩
                case measure => simp [intOf]; omega
              · have hstg := Lib.hid (stage' n kk q r HG.out u fan hu1 (by omega) h3 h4 Ab Af gb ga capB capA L.length capf L T' restb resta HTl.out hm HIN.out HN.out.2.1 HN.out.1 (fun _ e => HN.out.2.2 e.symm) w5 hPF hPT).1
                unfold pf rg at hstg
                have HPF := Lib.hid (And.intro hp (And.intro hPF (Pre.lt hPF)))
                have hgbl : gb < w5.heap.size := Pre.lt hPF
                clear hp hPF hPT hTl'
                go_wp2_with fail
                refine hstg.out.mono ?_
                rintro e w6 ⟨rfl, hP6, hT6⟩
                have HX := Lib.hid (show Half n q r fan (i + 1) L (bucket (fun x => pn n q r x % u) u L) (.slice Af L.length capf) (.slice Ab L.length L.length) (.slice Ab L.length L.length) (.slice Af L.length capf) ga gb capA capB resta restb (.slice Af L.length capf) (.slice Ab L.length L.length) w6 from by
                  refine .inl ⟨by have := HPF.out.1; omega, rfl, rfl, by rw [HN2.out.1]; exact hP6, ?_⟩
                  exact HPF.out.2.1.same (hT6.block gb HPF.out.2.2 (fun e => HN.out.2.2 e.symm)))
                have HT6 := Lib.hid (HTu.out.trans (hT6.more (S' := fun k => k = ga ∨ k = gb) (fun k h => .inl h)))
                have HL6 := Lib.hid (bucket_len (p := fun x => pn n q r x % u) (B := u) (L := L) (fun x _ => Nat.mod_lt _ (by omega)))
                clear hP6 hT6
                go_wp2
                go_roundw
                case rel => exact ⟨i + 1, _, by omega, HL6.out, by rw [← HN2.out.2.2], by rw [HN2.out.2.1], HX.out, HT6.out⟩
                case measure => simp [intOf]; omega
            · obtain rfl : i = s := by omega
              have h0 : i - i = 0 := Nat.sub_self i
              rw [h0]
              have hbk := bucket_mod (pn n q r) k (fan ^ i) L (fun x hx => by
                obtain ⟨a, b⟩ := HOK.out x hx
                unfold pn; omega) hst.1
              unfold Half at hH
              rw [hbk] at hH
              have HH := Lib.hid (And.intro hH (And.intro hTu hTl'))
              clear hH hTu hbk hTl' h0
              go_wp2
              rw [Exit.noGoto_ret]
              go_ret3
              obtain ⟨hH, hTu, hTl'⟩ := HH.out
              refine .inr ⟨i, hst, HOK.out, ⟨w.heap.size, u19, .slice none 0 0, T', congrArg (fun m => Ending.returned (.tuple #[u19, .slice (some ⟨w.heap.size, 0, none⟩) m m, .int .i64 0])) HK.out, Nat.le_refl _, hTu.row HD4.out (by omega), hTl', ?_⟩, HT4.out.trans hTu⟩
              rcases hH with ⟨hp, rfl, -, hPF, hPT⟩ | ⟨hp, rfl, -, hPF, hPT⟩
              · exact .inl ⟨hp, rfl, hPF, hPT⟩
              · exact .inr ⟨hp, rfl, hPF, hPT⟩
end Go.Proofs.Ytepljdnhnnpdmaa.Shuf
