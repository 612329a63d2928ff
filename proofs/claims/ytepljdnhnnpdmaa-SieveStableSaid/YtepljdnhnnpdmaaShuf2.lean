/-
  The program's stage, walked. No condition.
-/
import Derived.Test.YtepljdnhnnpdmaaShuf
import Derived.Outline
import Derived.BigRegion
set_option linter.unusedVariables false
set_option linter.unusedSimpArgs false
namespace Go.Proofs.Ytepljdnhnnpdmaa.Shuf
open Go.RowKit Go.Shelf Go.ChangeShapes Go.WideShapes Go.ChangeAt K Desk Cut Radix

def rg (n k q r : Int) : Value := .agg #[.int .u32 n, .int .u32 k, .int .u32 q, .int .u32 r]
def pf (n k q r : Int) : Value := .func (.func 30) #[rg n k q r] #[]
def pn (n q r : Int) (x : U3) : Nat := (Cut.part n q r x.t).toNat
def dg (n q r : Int) (unit fan : Nat) (x : U3) : Nat := pn n q r x / unit % fan
theorem byU (n k q r : Int) (x : U3) (h : Cut.Good n k q r) (w : World) :
    Calls Try.prog 30 #[.agg #[.int .u32 n, .int .u32 k, .int .u32 q, .int .u32 r], .agg #[.int .u32 x.t, .int .u64 x.a, .int .u64 x.b]] w fun e w' => e = .returned (.int .i64 (Cut.part n q r x.t)) ∧ Below w.heap.size w w' :=
  byTo n k q r x.t x.a x.b h x.tb.1 w
def RelC (key : U3 → Nat) (L : List U3) (w : World) (i : Value) (wr : World) : Prop :=
  ∃ j : Nat, j ≤ L.length ∧ i = .int .i64 j ∧ Row wr w.heap.size 150 (ic (cnts key (L.take j))) ∧ Below w.heap.size w wr
def RelD (key : U3 → Nat) (L : List U3) (fan : Nat) (w : World) (i : Value) (wr : World) : Prop :=
  ∃ m : Nat, m ≤ fan ∧ i = .int .i64 m ∧ Row wr w.heap.size 150 (ic (sums key L m)) ∧ Below w.heap.size w wr
def RelP (key : U3 → Nat) (L : List U3) (fan gt capT : Nat) (restt : List Value) (w : World) (i : Value) (wr : World) : Prop :=
  ∃ (j : Nat) (T : List U3), j ≤ L.length ∧ i = .int .i64 j ∧ T.length = L.length ∧ Laid key L fan j T ∧ Row wr w.heap.size 150 (ic (puts key L fan j)) ∧ Pre wr gt 55 capT (ucs T ++ restt) ∧ Turns (fun k => k = gt ∨ k = w.heap.size) w wr
theorem put_lt {key : U3 → Nat} {L : List U3} {j : Nat} {x : U3} (hx : L[j]? = some x) : below key L (key x) + cnt key (L.take j) (key x) < L.length := by
  obtain ⟨hj, rfl⟩ := List.getElem?_eq_some_iff.1 hx
  have htk : L.take (j + 1) = L.take j ++ [L[j]] := List.take_succ_eq_append_getElem hj
  have h1 := cnt_take_le key L (key L[j]) (j + 1)
  rw [htk, cnt_snoc, if_pos rfl] at h1
  have h2 := below_succ key L (key L[j])
  have h3 : below key L (key L[j] + 1) ≤ L.length := List.length_filter_le _ _
  omega
def StageAt (gt capT : Nat) (L : List U3) (restt : List Value) (w : World) (e : Ending) (w' : World) : Prop := e = .returned (.tuple #[]) ∧ Pre w' gt 55 capT (ucs L ++ restt) ∧ Turns (fun k => k = gt) w w'
set_option maxRecDepth 100000 in
set_option maxHeartbeats 4000000 in
theorem stage (n k q r : Int) (h : Cut.Good n k q r) (unit fan : Nat) (hu : 1 ≤ unit) (hu2 : unit ≤ 262144) (hf : 2 ≤ fan) (hf2 : fan ≤ 256) (Af At : Option Addr) (gf gt capF capT capf capt : Nat) (L T : List U3) (restf restt : List Value)
    (hTl : T.length = L.length) (hm : L.length * 24 ≤ 140737488351232) (hin : ∀ x ∈ L, 0 ≤ Cut.part n q r x.t ∧ Cut.part n q r x.t ≤ 512) (hAf : L ≠ [] → Af = some ⟨gf, 0, none⟩) (hAt : L ≠ [] → At = some ⟨gt, 0, none⟩) (hne : L ≠ [] → gf ≠ gt)
    (w : World) (hF : Pre w gf 55 capF (ucs L ++ restf)) (hT : Pre w gt 55 capT (ucs T ++ restt)) :
    Calls Try.prog 65 #[.slice Af L.length capf, .slice At L.length capt, .int .i64 unit, .int .i64 fan, pf n k q r] w (StageAt gt capT (bucket (dg n q r unit fan) fan L) restt w) := by
  have hal := fun W => by exact (show (Instr.alloc 150 true (.tuple #[])).run Try.prog W = .ok (.pointer (some ⟨W.heap.size, 0, none⟩)) (W.alloc (.cells Z257 150)) by kernel_rfl)
  have hgf := Pre.lt hF
  have hgt := Pre.lt hT
  have HF := Lib.hid hF
  have HT := Lib.hid hT
  have HIN := Lib.hid hin
  have HA := Lib.hid (And.intro hAf (And.intro hAt hne))
  have hby := Lib.hid (fun x W => byU n k q r x h W)
  clear hF hT hin hAf hAt hne h
  unfold pf rg
  go_enter Try.func65, Try.ntmps65
  go_wp2
  have hzc : Try.zeroCells150 = Z257 := by kernel_rfl
  rw [hzc]
  clear hzc
  have hu0 : (1 : Int) ≤ (unit : Int) := by omega
  have hf0 : (1 : Int) ≤ (fan : Int) := by omega
  have hf1 : (fan : Int) ≤ 256 := by omega
  have hu1 : (unit : Int) ≤ 262144 := by omega
  go_loopw [19] (fun i wr => RelC (dg n q r unit fan) L w i wr) (fun i _ => L.length - (intOf i).toNat)
  case atStart => exact ⟨0, Nat.zero_le _, rfl, by rw [List.take_zero, cnts_nil]; exact Row.new _ _ _, (Below.refl _ _).alloc (Nat.le_refl _) _⟩
  case round =>
    obtain ⟨j, hj, rfl, hC, hl⟩ := hrel
    rcases Nat.lt_or_ge j L.length with h6 | h6
    · obtain ⟨x, hx⟩ : ∃ x, L[j]? = some x := ⟨_, List.getElem?_eq_getElem h6⟩
      have hne0 : L ≠ [] := fun e => by rw [e] at h6; cases h6
      obtain rfl := HA.out.1 hne0
      have hkb : decide ((j : Int) < (L.length : Int)) = true := decide_eq_true (by omega)
      obtain ⟨c0, c1, c2⟩ := Pre.upd (HF.out.below hl hgf) hx
      have hgf1 : gf < wr.heap.size := Nat.lt_of_lt_of_le hgf hl.size
      obtain ⟨hp0, hp1⟩ := HIN.out x (List.mem_of_getElem? hx)
      obtain ⟨p, hp⟩ : ∃ p : Nat, Cut.part n q r x.t = p := ⟨(Cut.part n q r x.t).toNat, by omega⟩
      have hpn : dg n q r unit fan x = p / unit % fan := by unfold dg pn; rw [hp, Int.toNat_natCast]
      have hstep := cnts_snoc (dg n q r unit fan) (L.take j) x (by rw [hpn]; have := Nat.mod_lt (p / unit) (show 0 < fan by omega); omega)
      have htk : L.take (j + 1) = L.take j ++ [x] := by
        obtain ⟨hj', e⟩ := List.getElem?_eq_some_iff.1 hx
        rw [List.take_succ_eq_append_getElem hj', e]
      rw [← htk] at hstep
      have hbx := Lib.hid (hp ▸ hby.out x)
      have hcl : cnt (dg n q r unit fan) (L.take j) (dg n q r unit fan x) ≤ L.length := Nat.le_trans (List.length_filter_le _ _) (by rw [List.length_take]; omega)
      have hcg := cnts_get (dg n q r unit fan) (L.take j) (d := dg n q r unit fan x) (by rw [hpn]; have := Nat.mod_lt (p / unit) (show 0 < fan by omega); omega)
      obtain ⟨cc, hcc⟩ : ∃ cc, cnt (dg n q r unit fan) (L.take j) (dg n q r unit fan x) = cc := ⟨_, rfl⟩
      rw [hcc] at hstep hcl hcg
      rw [hpn] at hstep hcg
      have hpe : (p : Int) / (unit : Int) = ((p / unit : Nat) : Int) := by push_cast; rfl
      have hpl : p / unit ≤ 512 := Nat.le_trans (Nat.div_le_self _ _) (by omega)
      have hdd : ((p / unit : Nat) : Int) % (fan : Int) = ((p / unit % fan : Nat) : Int) := by push_cast; rfl
      have hdl : p / unit % fan < 256 := by have := Nat.mod_lt (p / unit) (show 0 < fan by omega); omega
      obtain ⟨d, hde⟩ : ∃ d, p / unit % fan = d := ⟨_, rfl⟩
      rw [hde] at hstep hcg hdd hdl
      obtain ⟨pe, hpee⟩ : ∃ pe, p / unit = pe := ⟨_, rfl⟩
      rw [hpee] at hpe hpl hdd hde
      have hple : (p : Int) ≤ 512 := by omega
      have R0 := Lib.hid (hC.alloc (.cells (ua x) 55))
      have B0 := Lib.hid (hl.alloc hl.size (.cells (ua x) 55))
      have HS := Lib.hid hstep
      have HCG := Lib.hid hcg
      have hsz := hl.size
      unfold ua at R0 B0
      have hgw : w.heap.size < wr.heap.size := hC.lt
      clear hx hne0 hp0 hp1 hp hpn hstep htk hcc hde hcg hC hl hpee
      go_wp2_with fail
      refine (hbx.out _).mono ?_
      rintro e w1 ⟨rfl, hb⟩
      have R1 := R0.out.below hb (by simp only [World.size_alloc]; omega)
      have B1 := B0.out.trans (hb.mono (by simp only [World.size_alloc]; omega))
      have q0 := ic_get R1 HCG.out
      have f0 := R1.free (d + 1)
      have RZ := Lib.hid (ic_set R1 (d + 1) (cc + 1))
      have BZ := Lib.hid (B1.setCell (p := ⟨w.heap.size, d + 1, none⟩) (Nat.le_refl _) (.int .i64 ((cc + 1 : Nat) : Int)))
      clear R1 B1 hb c0 c1 c2
      go_wp2
      go_roundw
      case rel => exact ⟨j + 1, by omega, by go_num, by rw [HS.out]; exact RZ.out, BZ.out⟩
      case measure => simp [intOf]; omega
    · obtain rfl : j = L.length := by omega
      have hkb : decide ((L.length : Int) < (L.length : Int)) = false := by simp
      rw [List.take_length] at hC
      have hkeyl : ∀ v, cnt (dg n q r unit fan) L v ≤ L.length ∧ below (dg n q r unit fan) L v ≤ L.length := fun v => ⟨List.length_filter_le _ _, List.length_filter_le _ _⟩
      have HK := Lib.hid hkeyl
      have HC := Lib.hid hC
      clear hC hkeyl
      go_wp2
      go_loopw [37] (fun i wr => RelD (dg n q r unit fan) L fan w i wr) (fun i _ => fan - (intOf i).toNat)
      case atStart => exact ⟨0, Nat.zero_le _, rfl, by rw [sums_zero]; exact HC.out, hl⟩
      case round =>
        clear HC hl
        obtain ⟨i, hi, rfl, hD, hl⟩ := hrel
        rcases Nat.lt_or_ge i fan with h7 | h7
        · have hkb2 : decide ((i : Int) < (fan : Int)) = true := decide_eq_true (by omega)
          obtain ⟨g0, g1⟩ := sums_get (dg n q r unit fan) L (m := i) (by omega)
          have g1 := g1 (by omega)
          have c0 := ic_get hD g0
          have c1 := ic_get hD g1
          have hs := sums_succ (dg n q r unit fan) L (m := i) (by omega)
          obtain ⟨b1, b2⟩ := HK.out i
          obtain ⟨x, hx⟩ : ∃ x, cnt (dg n q r unit fan) L i = x := ⟨_, rfl⟩
          obtain ⟨y, hy⟩ : ∃ y, below (dg n q r unit fan) L i = y := ⟨_, rfl⟩
          rw [hx] at c1 hs b1
          rw [hy] at c0 hs b2
          have f1 := hD.free (i + 1)
          have RZ := Lib.hid (show Row _ _ _ _ from (ic_set hD (i + 1) (x + y)).drew)
          have BZ := Lib.hid ((hl.setCell (p := ⟨w.heap.size, i + 1, none⟩) (Nat.le_refl _) (.int .i64 ((x + y : Nat) : Int))).drew)
          have HS := Lib.hid hs
          have hsw := hD.lt
          have hi0 : (0 : Int) ≤ (i : Int) := by omega
          have hi1 : (i : Int) < 257 := by omega
          have hv0 : IntKind.i64.wrap ((i : Int) + 1) = (i : Int) + 1 := IntWalk.i64_in _ ⟨by omega, by omega⟩
          have hv1 : (0 : Int) ≤ (i : Int) + 1 := by omega
          have hv2 : (i : Int) + 1 < 257 := by omega
          have hv3 : ((i : Int) + 1).toNat = i + 1 := by omega
          have hv4 : IntKind.i64.wrap ((x : Int) + (y : Int)) = (x : Int) + (y : Int) := IntWalk.i64_in _ ⟨by omega, by omega⟩
          clear hD hl hs hx hy g0 g1
          go_wp2
          refine K.region_tail 9 (by kernel_rfl) (by kernel_rfl) ?_
          simp only [List.take_succ_cons, List.take_zero, List.drop_succ_cons, List.drop_zero]
          iterate 10 (first
            | ((with_reducible refine wpStill_step (fun KK hKK => ?_))
               first
                 | ((with_reducible refine K.still_else ?_ (K.Puts.mk' _) ?_)
                    (first | rfl | (simp [Region.wanted, yielded]; done))
                    (with_reducible refine hKK _ ?_))
                 | ((with_reducible refine K.still_if ?_ ?_)
                    (first | rfl | (simp [Region.wanted, yielded]; done))
                    apply K.still_val
                    · go_simp; (try go_ints); exact K.Gives.mk' _ _
                    · go_simp; exact K.Puts.mk' _
                    (with_reducible refine hKK _ ?_))
               clear hKK KK)
            | skip)
          refine wpStill_nil ?_
          go_wp2
          go_roundw
          case rel => exact ⟨i + 1, by omega, by go_num, by rw [HS.out]; exact RZ.out, BZ.out⟩
          case measure => simp [intOf]; omega
        · obtain rfl : i = fan := by omega
          have hkb2 : decide ((i : Int) < (i : Int)) = false := by simp
          have HT2 := Lib.hid (HT.out.below hl hgt)
          have HF2 := Lib.hid (HF.out.below hl hgf)
          have HD := Lib.hid hD
          clear hD
          go_wp2
          go_loopw [52] (fun a wr => RelP (dg n q r unit i) L i gt capT restt w a wr) (fun a _ => L.length - (intOf a).toNat)
          case atStart => exact ⟨0, T, Nat.zero_le _, rfl, hTl, laid_zero _ _ _ _, by rw [puts_zero]; exact HD.out, HT2.out, ⟨hl.1, hl.mono (Nat.zero_le _), fun k hk hn => hl.block k hk⟩⟩
          case round =>
            clear HT2 HF2 HD hl
            obtain ⟨j, T', hj, rfl, hTl', hLd, hQ, hP, hTu⟩ := hrel
            rename World => wr
            rcases Nat.lt_or_ge j L.length with h8 | h8
            · obtain ⟨x, hx⟩ : ∃ x, L[j]? = some x := ⟨_, List.getElem?_eq_getElem h8⟩
              have hne0 : L ≠ [] := fun e => by rw [e] at h8; cases h8
              have hgg := HA.out.2.2 hne0
              obtain rfl := HA.out.1 hne0
              obtain rfl := HA.out.2.1 hne0
              have hkb3 : decide ((j : Int) < (L.length : Int)) = true := decide_eq_true (by omega)
              have hszu := hTu.size
              obtain ⟨c0, c1, c2⟩ := Pre.upd ((HF.out.same (hTu.block gf hgf (by intro e; rcases e with e | e <;> omega)))) hx
              have hgf1 : gf < wr.heap.size := by omega
              have hgt1 : gt < wr.heap.size := by omega
              obtain ⟨hp0, hp1⟩ := HIN.out x (List.mem_of_getElem? hx)
              obtain ⟨p, hp⟩ : ∃ p : Nat, Cut.part n q r x.t = p := ⟨(Cut.part n q r x.t).toNat, by omega⟩
              have hpn : dg n q r unit i x = p / unit % i := by unfold dg pn; rw [hp, Int.toNat_natCast]
              have hml := Nat.mod_lt (p / unit) (show 0 < i by omega)
              have hstep := puts_succ (dg n q r unit i) L hx (by rw [hpn]; exact hml) (by omega)
              have hlaid := laid_succ hLd hx (by rw [hTl']; exact put_lt hx)
              have hput := put_lt (key := dg n q r unit i) hx
              have hbx := Lib.hid (hp ▸ hby.out x)
              have hqg := puts_get (dg n q r unit i) L (fan := i) (j := j) (d := dg n q r unit i x) (by rw [hpn]; exact hml) (by omega)
              obtain ⟨E, hE⟩ : ∃ E, below (dg n q r unit i) L (dg n q r unit i x) + cnt (dg n q r unit i) (L.take j) (dg n q r unit i x) = E := ⟨_, rfl⟩
              rw [hE] at hstep hlaid hput hqg
              rw [hpn] at hstep hqg
              have hpe : (p : Int) / (unit : Int) = ((p / unit : Nat) : Int) := by push_cast; rfl
              have hpl : p / unit ≤ 512 := Nat.le_trans (Nat.div_le_self _ _) (by omega)
              have hdd : ((p / unit : Nat) : Int) % (i : Int) = ((p / unit % i : Nat) : Int) := by push_cast; rfl
              obtain ⟨d, hde⟩ : ∃ d, p / unit % i = d := ⟨_, rfl⟩
              rw [hde] at hstep hqg hdd hml
              obtain ⟨pe, hpee⟩ : ∃ pe, p / unit = pe := ⟨_, rfl⟩
              rw [hpee] at hpe hpl hdd hde
              have hple : (p : Int) ≤ 512 := by omega
              have hd0 : (0 : Int) ≤ (d : Int) := by omega
              have hd1 : (d : Int) < 257 := by omega
              have hE0 : (0 : Int) ≤ (E : Int) := by omega
              have hE1 : (E : Int) < (L.length : Int) := by omega
              obtain ⟨yT, hyT⟩ : ∃ y, T'[E]? = some y := ⟨_, List.getElem?_eq_getElem (by omega)⟩
              have R0 := Lib.hid (hQ.alloc (.cells (ua x) 55))
              have P0 := Lib.hid (hP.alloc (.cells (ua x) 55))
              have X0 := Lib.hid (Row.new wr 55 (ua x))
              have T0 := Lib.hid (hTu.alloc (.cells (ua x) 55))
              unfold ua at R0 P0 T0 X0
              have hgw : w.heap.size < wr.heap.size := hQ.lt
              have HS := Lib.hid (And.intro hstep (And.intro hlaid (And.intro hqg hyT)))
              clear hx hne0 hp0 hp1 hp hpn hstep hlaid hqg hyT hE hde hQ hP hTu hLd hpee
              go_wp2_with fail
              refine (hbx.out _).mono ?_
              rintro e w1 ⟨rfl, hb⟩
              have hs1 := hb.size
              simp only [World.size_alloc] at hs1
              have R1 := R0.out.below hb (by simp only [World.size_alloc]; omega)
              have P1 := P0.out.below hb (by simp only [World.size_alloc]; omega)
              have X1 := X0.out.below hb (by simp only [World.size_alloc]; omega)
              have T1 := T0.out.trans (Turns.of_below hb)
              have q0 := ic_get R1 HS.out.2.2.1
              have f0 := R1.free d
              have x0 := X1.get (i := 0) rfl
              have x1 := X1.get (i := 1) rfl
              have x2 := X1.get (i := 2) rfl
              simp only [List.getElem_toArray, List.getElem_cons_zero, List.getElem_cons_succ] at x0 x1 x2
              obtain ⟨t0, t1, t2⟩ := Pre.upd P1 HS.out.2.2.2
              have u0 := P1.free (E * 3)
              have u1 := P1.free (E * 3 + 1)
              have u2 := P1.free (E * 3 + 2)
              have hgtw : gt ≠ w.heap.size := by omega
              have PZ := (Pre.upset P1 x (e := E) (by omega)).drew
              have RZ : Row _ w.heap.size _ _ := (((R1.other (a := ⟨gt, E * 3, none⟩) (by show w.heap.size ≠ gt; omega) (.int .u32 x.t)).other (a := ⟨gt, E * 3 + 1, none⟩) (by show w.heap.size ≠ gt; omega) (.int .u64 x.a)).other (a := ⟨gt, E * 3 + 2, none⟩) (by show w.heap.size ≠ gt; omega) (.int .u64 x.b)).drew
              have TZ := (((T1.setCell (p := ⟨gt, E * 3, none⟩) (.inl rfl) (.int .u32 x.t)).setCell (p := ⟨gt, E * 3 + 1, none⟩) (.inl rfl) (.int .u64 x.a)).setCell (p := ⟨gt, E * 3 + 2, none⟩) (.inl rfl) (.int .u64 x.b)).drew
              have PY := Lib.hid (PZ.other (a := ⟨w.heap.size, d, none⟩) hgtw (.int .i64 ((E + 1 : Nat) : Int)))
              have RY := Lib.hid (ic_set RZ d (E + 1))
              have TY := Lib.hid (TZ.setCell (p := ⟨w.heap.size, d, none⟩) (.inr rfl) (.int .i64 ((E + 1 : Nat) : Int)))
              have HS1 := Lib.hid HS.out.1
              clear R1 P1 X1 T1 PZ RZ TZ hb c0 c1 c2
              go_wp2
              refine K.region_tail 6 (by kernel_rfl) (by kernel_rfl) ?_
              simp only [List.take_succ_cons, List.take_zero, List.drop_succ_cons, List.drop_zero]
              iterate 7 (first
                | ((with_reducible refine wpStill_step (fun KK hKK => ?_))
                   first
                     | ((with_reducible refine K.still_else ?_ (K.Puts.mk' _) ?_)
                        (first | rfl | (simp [Region.wanted, yielded]; done))
                        (with_reducible refine hKK _ ?_))
                     | ((with_reducible refine K.still_if ?_ ?_)
                        (first | rfl | (simp [Region.wanted, yielded]; done))
                        apply K.still_val
                        · go_simp; (try go_ints); exact K.Gives.mk' _ _
                        · go_simp; exact K.Puts.mk' _
                        (with_reducible refine hKK _ ?_))
                   clear hKK KK)
                | skip)
              refine wpStill_nil ?_
              go_wp2
              go_roundw
              case rel => exact ⟨j + 1, T'.set E x, by omega, by go_num, by rw [List.length_set]; exact hTl', HS.out.2.1, by rw [HS1.out]; exact RY.out, PY.out, TY.out⟩
              case measure => simp [intOf]; omega
            · obtain rfl : j = L.length := by omega
              have hkb3 : decide ((L.length : Int) < (L.length : Int)) = false := by simp
              have hall := laid_all hLd (fun x hx => by unfold dg; exact Nat.mod_lt _ (by omega)) (by omega)
              rw [List.take_of_length_le (by omega)] at hall
              have HZ := Lib.hid (And.intro hall (And.intro hP hTu))
              clear hall hP hTu hQ hLd
              go_wp2
              go_end0
              exact ⟨rfl, by rw [← HZ.out.1]; exact HZ.out.2.1, turns_anew HZ.out.2.2 (fun k h => h.elim .inl (fun h => .inr (by omega)))⟩
end Go.Proofs.Ytepljdnhnnpdmaa.Shuf
