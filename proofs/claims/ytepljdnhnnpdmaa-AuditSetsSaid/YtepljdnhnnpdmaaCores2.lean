/-
  The audit of cores, whole: what the program answers. No condition.
-/
import Derived.Test.YtepljdnhnnpdmaaCores
import Derived.Deep.DeepCutAuto
import Derived.WalkMore
set_option linter.unusedVariables false
set_option linter.unusedSimpArgs false
namespace Go.Proofs.Ytepljdnhnnpdmaa.Cores
open Go.RowKit Go.Shelf K Feed Desk Forest Case Peel Labels

theorem retc_ver {tmps : Array Value} {W : World} {V : Nat} {r : Bool} {v q c : Int} (h8 : tmps[8]? = some (.pointer (some ⟨V, 0, none⟩))) (h9 : tmps[9]? = some (.int .i64 c)) (hR : Row W V 79 #[.bool r, .int .u32 v, .int .i64 q]) :
    (results Try.f48 tmps).run Try.prog W = .ok (.tuple #[.agg #[.bool r, .int .u32 v, .int .i64 q], .int .i64 c]) W := by
  have c0 := hR.get (i := 0) rfl
  have c1 := hR.get (i := 1) rfl
  have c2 := hR.get (i := 2) rfl
  simp only [List.getElem_toArray, List.getElem_cons_zero, List.getElem_cons_succ] at c0 c1 c2
  simp [results, Try.f48, Try.results48, go_sem, h8, h9, c0, c1, c2]
def CoresPost (n g : Nat) (rest : List Value) (l : List S8) (es : List E3) (beh : Int) (w : World) (e : Ending) (w' : World) : Prop :=
  ∃ f, (oerr n 0 beh es = 0 → ∃ s, Reached es n s ∧ s.2.length = n ∧ s.2.count 0 = 0 ∧ f = notes (fun v => s.2.getD v 0 - 1) l n) ∧
    e = .returned (.tuple #[verdictOf (oerr n 0 beh es) f, .int .i64 (oerr n 0 beh es)]) ∧ (∃ F, FRow w' g F rest ∧ F.length = n + n) ∧ Turns (fun k => k = g) w w'
structure CutIs (g n rcap Bg Bc : Nat) (W wx : World) : Prop where
  rg : Row wx Bg 76 #[.slice (some ⟨g, 0, none⟩) n rcap]
  rc : Row wx Bc 76 #[.slice (some ⟨g, n, none⟩) n (rcap - n)]
  b : Below W.heap.size W wx
  fg : W.heap.size ≤ Bg
  fc : W.heap.size ≤ Bc
theorem sw_le {D C : List Nat} {k M : Nat} (hC : ∀ u, C.getD u 0 ≤ M) (hk : k + 1 ≤ M) : ∀ j u, (sw D C k j).getD u 0 ≤ M := by
  intro j
  induction j with
  | zero => exact hC
  | succ j ih =>
    rw [sw]
    split
    · exact getD_set_le ih hk
    · exact ih
def RelPeel (Z : Prop) (es : List E3) (n g : Nat) (rest : List Value) (W : World) (left k : Value) (wr : World) : Prop :=
  ∃ (kk : Nat) (C : List Nat), Reached es n (kk, C) ∧ C.length = n ∧ kk ≤ es.length ∧ (∀ u, C.getD u 0 ≤ es.length + 1) ∧ (C.count 0 = 0 → Z) ∧ k = .int .u64 kk ∧ left = .int .u32 (C.count 0 : Nat) ∧ (∃ D, D.length = n ∧ FRow wr g (D ++ C) rest) ∧ Turns (fun k => k = g) W wr
def RelIn (D C : List Nat) (kk n g : Nat) (rest : List Value) (W : World) (left least took i : Value) (wr : World) : Prop :=
  ∃ j : Nat, j ≤ n ∧ i = .int .i64 j ∧ left = .int .u32 ((sw D C kk j).count 0 : Nat) ∧ least = .int .u64 (ls D C j : Nat) ∧ took = .bool (tk D C kk j) ∧ FRow wr g (D ++ sw D C kk j) rest ∧ Turns (fun k => k = g) W wr
set_option maxRecDepth 100000 in
set_option maxHeartbeats 4000000 in
theorem cores_yes (n R rcap g lo hi n₀ b0 b1 cap : Nat) (A : Option Addr) (l : List S8) (es : List E3) (beh : Int) (rest : List Value) (D0 C0 : List Nat) (hr : es.length * 12 ≤ 140737488351232) (hRc : R ≤ rcap) (hn5 : n ≤ 5000)
    (n1 : 1 ≤ n) (n3 : l.length = n) (n4 : n + n ≤ R) (w : World) (hA : Lay w n₀ A (svs l)) (hn₀ : n₀ ≤ g) (hF : FeedFrom lo w hi b0 b1 es beh) (hg : g < lo) (hlo : lo ≤ hi) (hhi : hi ≤ w.heap.size)
    (hR : FRow w g (D0 ++ C0) rest) (hD0 : D0.length = n) (hC0 : C0.length = n) :
    Calls Try.prog 48 #[.int .u32 n, feedVal b0 b1, .slice A l.length cap, .slice (some ⟨g, 0, none⟩) R rcap] w (CoresPost n g rest l es beh w) := by
  have hmc : madeCode (n : Int) = 0 := by unfold madeCode; rw [if_neg (by omega)]
  have hsit : sitCode 0 l.length n R ((2 : Int) * n) = 0 := by unfold sitCode; rw [if_neg (by simp), if_neg (by simp [n3]), if_neg (by omega)]
  have hs := Lib.hid (fun W => sit_yes n 0 b0 b1 A l.length cap R ((2 : Int) * n) 0 (by omega) hsit W)
  have R8 := Lib.hid (Row.new w 79 #[.bool false, .int .u32 0, .int .i64 0])
  have T8 := Lib.hid ((Turns.refl (fun _ => False) w).alloc (.cells #[.bool false, .int .u32 0, .int .i64 0] 79))
  have HA := Lib.hid hA
  have HF := Lib.hid hF
  have HR := Lib.hid hR
  have lg := Row.lt hR
  have HL := Lib.hid (And.intro n3 (And.intro hD0 hC0))
  clear hA hF hR hmc hsit n3 hD0 hC0
  obtain ⟨V, hV⟩ : ∃ V, w.heap.size = V := ⟨_, rfl⟩
  have t1 : decide ((n : Int) < 1) = false := by simp; omega
  have t2 : decide ((2147483647 : Int) < n) = false := by simp; omega
  have t3 : decide ((n : Int) ≤ 2147483647) = true := by simp; omega
  go_enter Try.func48, Try.ntmps48
  go_wp2_with fail
  go_step3
  go_wp2_with fail
  refine (hs.out _).mono ?_
  rintro e w2 ⟨rfl, hw2⟩
  have RD := Row.new (w.alloc (.cells #[.bool false, .int .u32 0, .int .i64 0] 79)) 152 (deskRow n 0 (feedVal b0 b1) (.slice A l.length cap) false 0 0)
  have T2 := T8.out.alloc (.cells (deskRow n 0 (feedVal b0 b1) (.slice A l.length cap) false 0 0) 152)
  have RV := R8.out.alloc (.cells (deskRow n 0 (feedVal b0 b1) (.slice A l.length cap) false 0 0) 152)
  rw [← hw2] at RD T2 RV
  have S2 : w2.heap.size = V + 2 := by rw [hw2]; simp [hV]
  have hDn : (w.alloc (.cells #[.bool false, .int .u32 0, .int .i64 0] 79)).heap.size = V + 1 := by simp [hV]
  rw [hDn] at RD
  rw [hV] at RV
  have T2 := Lib.hid T2
  have RV := Lib.hid RV
  have RD := Lib.hid RD
  clear hw2 hDn
  go_upto_region 7 with fail
  obtain ⟨W3, hW3⟩ : ∃ W3, w2.alloc (.cells #[.pointer (some ⟨V + 1, 0, none⟩)] 107) = W3 := ⟨_, rfl⟩
  have RB3 := Row.at (Row.new w2 107 #[.pointer (some ⟨V + 1, 0, none⟩)]) S2
  have RV3 := RV.out.alloc (.cells #[.pointer (some ⟨V + 1, 0, none⟩)] 107)
  have RD3 := RD.out.alloc (.cells #[.pointer (some ⟨V + 1, 0, none⟩)] 107)
  have T3 := T2.out.alloc (.cells #[.pointer (some ⟨V + 1, 0, none⟩)] 107)
  have S3 : W3.heap.size = V + 3 := by rw [← hW3]; simp [S2]
  rw [hW3] at RB3 RV3 RD3 T3 ⊢
  have H3 := Lib.hid (And.intro RB3 (And.intro RV3 (And.intro RD3 T3)))
  clear hW3 RB3 RV3 RD3 T3 T2 RV RD S2
  have hnr : (n : Int) ≤ (rcap : Int) := by omega
  have hnr2 : (2 : Int) * n ≤ (rcap : Int) := by omega
  have hnr3 : (n : Int) ≤ (2 : Int) * n := by omega
  have hnr4 : (0 : Int) ≤ (2 : Int) * n := by omega
  have hwr : IntKind.u32.wrap ((2 : Int) * n) = (2 : Int) * n := IntWalk.u32_in _ ⟨by omega, by omega⟩
  have hrn : ¬ rcap = n := by omega
  have hlen2 : (((2 : Int) * n).toNat - n) = n := by omega
  go_cut [13, 14] (fun a b wx => ∃ Bg Bc, a = .pointer (some ⟨Bg, 0, none⟩) ∧ b = .pointer (some ⟨Bc, 0, none⟩) ∧ CutIs g n rcap Bg Bc W3 wx)
  case first =>
    go_region_held3 (fun _ => True) (trivial) ((fail))
    · go_wp2_with fail
      go_meet
      have h1 := Row.at (Row.new W3 76 #[.slice (some ⟨g, 0, none⟩) n rcap]) S3
      have h2 := Row.at (Row.new (W3.alloc (.cells #[.slice (some ⟨g, 0, none⟩) n rcap] 76)) 76 #[.slice (some ⟨g, n, none⟩) n (rcap - n)]) (b' := V + 3 + 1) (by simp [S3])
      exact ⟨V + 3, V + 3 + 1, rfl, rfl, ⟨(h1.alloc _).drew, h2.drew, (((Below.refl _ W3).alloc (Nat.le_refl _) _).alloc (by simp) _).drew, by omega, by omega⟩⟩
    · go_wp2_with fail
      go_meet
      have h1 := Row.at (Row.new W3 76 #[.slice (some ⟨g, n, none⟩) n (rcap - n)]) S3
      have h2 := Row.at (Row.new (W3.alloc (.cells #[.slice (some ⟨g, n, none⟩) n (rcap - n)] 76)) 76 #[.slice (some ⟨g, 0, none⟩) n rcap]) (b' := V + 3 + 1) (by simp [S3])
      exact ⟨V + 3 + 1, V + 3, rfl, rfl, ⟨h2.drew, (h1.alloc _).drew, (((Below.refl _ W3).alloc (Nat.le_refl _) _).alloc (by simp) _).drew, by omega, by omega⟩⟩
  case rest =>
    obtain ⟨Bg, Bc, rfl, rfl, hcu⟩ := hcut
    clear hwr hrn hlen2
    obtain ⟨RB3, RV3, RD3, T3⟩ := H3.out
    have RB4 := RB3.below hcu.b (by omega)
    have RV4 := RV3.below hcu.b (by omega)
    have RD4 := RD3.below hcu.b (by omega)
    have T4 := T3.trans (Turns.of_below hcu.b)
    have S4 := hcu.b.size
    have hfg := hcu.fg
    have hfc := hcu.fc
    have hBgl := hcu.rg.lt
    have hBcl := hcu.rc.lt
    have RG4 := hcu.rg
    have RC4 := hcu.rc
    have HR4 : FRow wc g (D0 ++ C0) rest := T4.row HR.out (fun h => h)
    have cg := RG4.get (i := 0) rfl
    have cc := RC4.get (i := 0) rfl
    simp only [List.getElem_toArray, List.getElem_cons_zero] at cg cc
    have H4 := Lib.hid (And.intro RB4 (And.intro RV4 (And.intro RD4 (And.intro T4 (And.intro RG4 (And.intro RC4 HR4))))))
    clear RB3 RV3 RD3 T3 RB4 RV4 RD4 T4 RG4 RC4 HR4 hcu
    obtain ⟨RB4, RV4, RD4, T4, RG4, RC4, HR4⟩ := H4.out
    obtain ⟨hl3, hd0, hc0⟩ := HL.out
    obtain ⟨W5, hclr, HR5, T45⟩ := clearC (cap := rcap - n) HR4 hd0 hc0 n1 0
    have hne : ∀ k, V ≤ k → k ≠ g := fun k h => by omega
    have RB5 := T45.row RB4 (hne _ (by omega))
    have RV5 := T45.row RV4 (hne _ (by omega))
    have RD5 := T45.row RD4 (hne _ (by omega))
    have RG5 := T45.row RG4 (hne _ (by omega))
    have RC5 := T45.row RC4 (hne _ (by omega))
    have T5 := (T4.more (S' := fun k => k = g) (fun k h => h.elim)).trans T45
    have S5 := T45.size
    have H5 := Lib.hid (And.intro RB5 (And.intro RV5 (And.intro RD5 (And.intro T5 (And.intro RG5 (And.intro RC5 HR5))))))
    clear RB4 RV4 RD4 T4 RG4 RC4 HR4 T45 RB5 RV5 RD5 T5 RG5 RC5 HR5 hl3 hd0 hc0 hne
    go_wp2_with fail
    go_step3
    go_wp2_with fail
    go_loopw [15, 16] (fun left k wr => RelPeel (oerr n 0 beh es = 0) es n g rest W5 left k wr) (fun left k _ => (intOf left).toNat * (es.length + 1) + (es.length - (intOf k).toNat))
    case atStart =>
      obtain ⟨RB5, RV5, RD5, T5, RG5, RC5, HR5⟩ := H5.out
      obtain ⟨hl3, hd0, hc0⟩ := HL.out
      exact ⟨0, List.replicate n 0, reached_start es n, by simp, Nat.zero_le _, fun u => by rw [List.getD_eq_getElem?_getD, List.getElem?_replicate]; split <;> simp, fun h => absurd h (by simp; omega), rfl, by simp, ⟨D0, hd0, HR5⟩, Turns.refl _ _⟩
    case round =>
      obtain ⟨kk, C, hre, hCl, hkl, hCb, hZ, rfl, rfl, ⟨D, hDl, hFR⟩, hT⟩ := hrel
      obtain ⟨RB5, RV5, RD5, T5, RG5, RC5, HR5⟩ := H5.out
      have hne : ∀ k, V ≤ k → k ≠ g := fun k h => by omega
      have RBr := hT.row RB5 (hne _ (by omega))
      have RVr := hT.row RV5 (hne _ (by omega))
      have RDr := hT.row RD5 (hne _ (by omega))
      have RGr := hT.row RG5 (hne _ (by omega))
      have RCr := hT.row RC5 (hne _ (by omega))
      have Tr := T5.trans hT
      have Sr := hT.size
      have hcl : C.count 0 ≤ n := by rw [← hCl]; exact List.count_le_length
      clear RB5 RV5 RD5 T5 RG5 RC5 HR5
      by_cases h0 : C.count 0 = 0
      · have cbr := RBr.get (i := 0) rfl
        simp only [List.getElem_toArray, List.getElem_cons_zero] at cbr
        have hCv : ∀ v, v < n → 1 ≤ C.getD v 0 := by
          intro v hv
          rcases Nat.eq_zero_or_pos (C.getD v 0) with h | h
          · exfalso
            have hm : 0 ∈ C := by
              rw [List.getD_eq_getElem?_getD, List.getElem?_eq_getElem (by omega)] at h
              have := List.getElem_mem (l := C) (n := v) (by omega)
              simp only [Option.getD_some] at h
              rwa [h] at this
            have := List.count_pos_iff.2 hm
            omega
          · exact h
        have Hr := Lib.hid (And.intro RBr (And.intro RVr (And.intro RDr (And.intro RCr (And.intro Tr (And.intro hre (And.intro hFR h0)))))))
        have Hv := Lib.hid hCv
        have HRe := Lib.hid (And.intro hre (And.intro h0 (hZ h0)))
        clear hZ
        have Hb := Lib.hid hCb
        rw [h0]
        clear RBr RVr RDr RGr RCr Tr hT hre hFR h0 hne hCv hCb hcl
        go_wp2_with fail
        obtain ⟨RBr, RVr, RDr, RCr, Tr, hre, hFR, h0⟩ := Hr.out
        obtain ⟨hl3, -, -⟩ := HL.out
        have hgl := Row.lt hFR
        refine (each (V + 1) n₀ A l cap (by omega) 84 #[.pointer (some ⟨V + 2, 0, none⟩), .pointer (some ⟨Bc, 0, none⟩)] (fun args W => rfl)
          (fun i W => Turns (fun k => k = V + 1) wr W ∧ Row W (V + 1) 152 (deskRow n 0 (feedVal b0 b1) (.slice A l.length cap) false (notes (fun v => C.getD v 0 - 1) l i).1 (notes (fun v => C.getD v 0 - 1) l i).2)) wr
          (desk3 RDr) (HA.out.below (Tr.below (by omega) (fun k h => by omega))) (by omega)
          (fun i W W' hJ hb => ⟨hJ.1.trans (Turns.of_below hb), hJ.2.below hb (by have := hJ.1.size; have := RDr.lt; omega)⟩) (fun i x W hJ hx hsz => ?see2) ⟨Turns.refl _ _, RDr⟩).mono ?_
        case see2 =>
          obtain ⟨hT, hRD⟩ := hJ
          have hil := (List.getElem?_eq_some_iff.1 hx).1
          have h1 := Hv.out i (by omega)
          have h2 := Hb.out i
          refine (look n g (rcap - n) Bc (V + 2) (V + 1) rest D C n 0 (feedVal b0 b1) (.slice A l.length cap) (notes (fun v => C.getD v 0 - 1) l i) i x (by omega) (by omega) hDl hCl ⟨h1, by omega⟩ (by omega) (by omega) (by omega) W (hT.row hFR (by omega)) (hT.row RCr (by omega)) (hT.row RBr (by omega)) hRD).mono ?_
          rintro e W' ⟨he, hRD', hT'⟩
          refine ⟨he, ⟨hT.trans hT', ?_⟩, hT'.below (by omega) (fun k h => by omega)⟩
          rw [notes, show l.getD i zero8 = x by rw [List.getD_eq_getElem?_getD, hx]; rfl, show (((C.getD i 0 - 1 : Nat) : Nat) : Int) = ((C.getD i 0 : Nat) : Int) - 1 by omega]
          exact hRD'
        rintro e w6 ⟨rfl, ⟨T56, RD6⟩, hb6⟩
        have RV6 := T56.row RVr (by omega)
        have RB6 := T56.row RBr (by omega)
        have FR6 : FRow w6 g (D ++ C) rest := T56.row hFR (by omega)
        have S6 := T56.size
        have T6 := (Tr.more (S' := fun k => k = g ∨ k = V + 1) (fun k h => .inl h)).trans (T56.more (fun k h => .inr h))
        rw [hl3] at RD6
        have cb6 := RB6.get (i := 0) rfl
        simp only [List.getElem_toArray, List.getElem_cons_zero] at cb6
        obtain ⟨r, v, q, hag⟩ := Labels.verdict_agg 0 (notes (fun v => C.getD v 0 - 1) l n)
        have H6 := Lib.hid (And.intro RV6 (And.intro RD6 (And.intro FR6 T6)))
        have Hag := Lib.hid hag
        clear RBr RVr RDr RCr Tr hFR h0 RB6 RV6 RD6 FR6 T6 T56 hb6 hag hre hl3 cbr
        go_wp2_with fail
        obtain ⟨RV6, RD6, FR6, T6⟩ := H6.out
        refine (verdict (V + 1) n 0 _ _ (notes (fun v => C.getD v 0 - 1) l n) 0 w6 RD6).mono ?_
        rintro e w7 ⟨rfl, hb7⟩
        rw [Hag.out]
        have RV7 := RV6.below hb7 RV6.lt
        have FR7 : FRow w7 g (D ++ C) rest := Row.below FR6 hb7 (Row.lt FR6)
        have T7 := T6.trans (Turns.of_below hb7)
        have hv0 := RV7.get (i := 0) rfl
        have hv1 := RV7.get (i := 1) rfl
        have hv2 := RV7.get (i := 2) rfl
        have hf0 := RV7.free 0
        have hf1 := RV7.free 1
        have hf2 := RV7.free 2
        simp only [List.getElem_toArray, List.getElem_cons_zero, List.getElem_cons_succ] at hv0 hv1 hv2
        have RZ := ((RV7.set 0 (.bool r)).set 1 (.int .u32 v)).set 2 (.int .i64 q)
        have TZ := ((T7.more (S' := fun k => k = g ∨ k = V + 1 ∨ k = V) (fun k h => h.elim .inl (fun h => .inr (.inl h)))).setCell (p := ⟨V, 0, none⟩) (.inr (.inr rfl)) (.bool r) |>.setCell (p := ⟨V, 1, none⟩) (.inr (.inr rfl)) (.int .u32 v)).setCell (p := ⟨V, 2, none⟩) (.inr (.inr rfl)) (.int .i64 q)
        have FZ : FRow _ g (D ++ C) rest := ((Row.other FR7 (a := ⟨V, 0, none⟩) (by show g ≠ V; omega) (.bool r)).other (a := ⟨V, 1, none⟩) (by show g ≠ V; omega) (.int .u32 v)).other (a := ⟨V, 2, none⟩) (by show g ≠ V; omega) (.int .i64 q)
        have HZ := Lib.hid (And.intro RZ (And.intro TZ FZ))
        clear RZ TZ FZ RV6 RD6 RV7 hb7 FR6 FR7 T6 T7
        go_wp2
        obtain ⟨RZ, TZ, FZ⟩ := HZ.out
        obtain ⟨hre, h0, hE⟩ := HRe.out
        rw [Exit.noGoto_ret]
        refine bodyPost_ret (retc_ver rfl rfl RZ) rfl ⟨notes (fun v => C.getD v 0 - 1) l n, fun _ => ⟨(kk, C), hre, hCl, h0, rfl⟩, by rw [hE, Hag.out], ⟨_, FZ, by simp [hDl, hCl]⟩, TZ.fresh (fun k h => ?_)⟩
        rcases h with h | h | h
        · exact .inl h
        · exact .inr (by omega)
        · exact .inr (by omega)
      · obtain ⟨ct, hct⟩ : ∃ ct, C.count 0 = ct := ⟨_, rfl⟩
        have h0' : ct ≠ 0 := by rw [← hct]; exact h0
        have hcl' : ct ≤ n := by rw [← hct]; exact hcl
        have hz : decide ((0 : Int) < (ct : Int)) = true := decide_eq_true (by omega)
        rw [hct]
        have Hct := Lib.hid hct
        clear hct hcl
        have cbr := RBr.get (i := 0) rfl
        have cgr := RGr.get (i := 0) rfl
        have ccr := RCr.get (i := 0) rfl
        simp only [List.getElem_toArray, List.getElem_cons_zero] at cbr cgr ccr
        obtain ⟨W6, hclr, HR6, T6⟩ := clearD (cap := rcap) hFR hDl n1 0
        have RB6 := T6.row RBr (hne _ (by omega))
        have RV6 := T6.row RVr (hne _ (by omega))
        have RD6 := T6.row RDr (hne _ (by omega))
        have RG6 := T6.row RGr (hne _ (by omega))
        have RC6 := T6.row RCr (hne _ (by omega))
        have S6 := T6.size
        have cb6 := RB6.get (i := 0) rfl
        have cg6 := RG6.get (i := 0) rfl
        have cc6 := RC6.get (i := 0) rfl
        simp only [List.getElem_toArray, List.getElem_cons_zero] at cb6 cg6 cc6
        have TT6 := Tr.trans T6
        have HT6 := hT.trans T6
        have hF6 : FeedFrom lo W6 hi b0 b1 es beh := fun W' h => HF.out W' fun k h1 h2 => (h k h1 h2).trans (TT6.block k (by omega) (by show k ≠ g; omega))
        have H6 := Lib.hid (And.intro RB6 (And.intro RV6 (And.intro RD6 (And.intro RG6 (And.intro RC6 (And.intro TT6 (And.intro HT6 (And.intro hF6 HR6))))))))
        have HRe := Lib.hid (And.intro hre (And.intro hCb h0))
        have Hcb := Lib.hid hCb
        clear RBr RVr RDr RGr RCr Tr hT hre hFR h0 hZ hCb T6 RB6 RV6 RD6 RG6 RC6 TT6 HT6 hF6 HR6 hne
        go_wp2_with fail
        obtain ⟨RB6, RV6, RD6, RG6, RC6, TT6, HT6, hF6, HR6⟩ := H6.out
        refine (over2 n 0 (by decide) (V + 1) b0 b1 lo hi es beh hr 83 #[.pointer (some ⟨Bc, 0, none⟩), .pointer (some ⟨Bg, 0, none⟩)] (fun args W => rfl)
          (fun pre W => Turns (fun k => k = g) W6 W ∧ FRow W g (degs C n pre ++ C) rest) W6 hF6 (by omega) (desk2 RD6)
          (fun pre W hJ => ⟨desk0 (hJ.1.row RD6 (by omega)), desk1 (hJ.1.row RD6 (by omega))⟩)
          (fun pre W W' hJ hb => ⟨hJ.1.then_below hb (Nat.le_refl _), Row.below hJ.2 hb (by omega)⟩)
          (fun pre x W hJ hx hsz hpl => ?see) ⟨Turns.refl _ _, HR6⟩).mono ?_
        case see =>
          obtain ⟨hT, hFR⟩ := hJ
          have hxx : x.s < n ∧ x.d < n := by
            unfold wrong at hx
            by_cases h1 : (n : Int) ≤ x.s ∨ (n : Int) ≤ x.d
            · rw [if_pos h1] at hx; cases hx
            · omega
          refine (see n g rcap (rcap - n) Bg Bc rest (degs C n pre) C (degs_length C n pre) hCl hn5 (fun u => by have := degs_le C n pre u; omega) x hxx.1 hxx.2 (by omega) (by omega) W hFR (hT.row RG6 (by omega)) (hT.row RC6 (by omega))).mono ?_
          rintro e W' ⟨he, hF', hT'⟩
          exact ⟨he, ⟨hT.trans hT', by rw [degs_snoc]; exact hF'⟩, Stay.of_turns hT' (by omega) (fun k h1 h2 h3 => by omega), hT'.above (fun k h => by omega)⟩
        rintro e w7 ⟨rfl, pre, hpre, hall, T67, FR7⟩
        obtain ⟨E, hE⟩ : ∃ E, oerr n 0 beh es = E := ⟨_, rfl⟩
        rw [hE] at hall ⊢
        have RB7 := T67.row RB6 (by omega)
        have RV7 := T67.row RV6 (by omega)
        have RD7 := T67.row RD6 (by omega)
        have RG7 := T67.row RG6 (by omega)
        have RC7 := T67.row RC6 (by omega)
        have S7 := T67.size
        have TT7 := TT6.trans T67
        have HT7 := HT6.trans T67
        clear RB6 RV6 RD6 RG6 RC6 TT6 HT6 hF6 HR6 cb6 cg6 cc6 cbr cgr ccr hclr
        have cb7 := RB7.get (i := 0) rfl
        have cg7 := RG7.get (i := 0) rfl
        have cc7 := RC7.get (i := 0) rfl
        simp only [List.getElem_toArray, List.getElem_cons_zero] at cb7 cg7 cc7
        by_cases hE0 : E = 0
        · subst hE0
          obtain rfl := hall rfl
          obtain ⟨Dg, hDg⟩ : ∃ Dg, degs C n pre = Dg := ⟨_, rfl⟩
          rw [hDg] at FR7
          have hDgl : Dg.length = n := by rw [← hDg]; exact degs_length C n pre
          have hDgb : ∀ u, Dg.getD u 0 ≤ pre.length := fun u => by rw [← hDg]; exact degs_le C n pre u
          have H7 := Lib.hid (And.intro RG7 (And.intro RC7 (And.intro HT7 FR7)))
          have HD := Lib.hid (And.intro hDg hDgb)
          have HEE := Lib.hid hE
          clear RB7 RV7 RD7 RG7 RC7 TT7 HT7 FR7 hDg hDgb hE hall hpre T67
          go_wp2
          go_loopw [15, 18, 19, 69] (fun left least took i wr => RelIn Dg C kk n g rest w7 left least took i wr) (fun _ _ _ i _ => n - (intOf i).toNat)
          case atStart => exact ⟨0, Nat.zero_le _, rfl, by rw [sw, Hct.out], rfl, rfl, H7.out.2.2.2, Turns.refl _ _⟩
          case round =>
            obtain ⟨j, hj, rfl, rfl, rfl, rfl, hFRi, hTi⟩ := hrel
            have RGi := hTi.row H7.out.1 (by omega)
            have RCi := hTi.row H7.out.2.1 (by omega)
            have cgi := RGi.get (i := 0) rfl
            have cci := RCi.get (i := 0) rfl
            simp only [List.getElem_toArray, List.getElem_cons_zero] at cgi cci
            clear cb7 cg7 cc7
            rcases Nat.lt_or_ge j n with h6 | h6
            · have hkb : decide ((j : Int) < (n : Int)) = true := decide_eq_true (by omega)
              have hcj := getC' hFRi hDgl (s := j) (by rw [sw_length]; omega)
              rw [sw_later (Nat.le_refl j)] at hcj
              have hdj := getD' hFRi (s := j) (by omega)
              have hfj := Row.free hFRi (n + j)
              by_cases hc : C.getD j 0 = 0
              · rw [hc] at hcj
                obtain ⟨dg, hdg⟩ : ∃ dg, Dg.getD j 0 = dg := ⟨_, rfl⟩
                have hdgb := HD.out.2 j
                rw [hdg] at hdj hdgb
                obtain ⟨lv, hlv⟩ : ∃ lv, ls Dg C j = lv := ⟨_, rfl⟩
                obtain ⟨m, hm⟩ : ∃ m, min lv dg = m := ⟨_, rfl⟩
                have hlv2 : ls Dg C (j + 1) = m := by rw [ls, if_pos hc, hlv, hdg, hm]
                have q1 := min_if lv dg
                have q2 := min_if' lv dg
                rw [hm] at q1 q2
                rw [hlv]
                by_cases hle : dg ≤ kk
                · have d2 : decide ((dg : Int) ≤ (kk : Int)) = true := decide_eq_true (by omega)
                  have d3 : decide (dg ≤ kk) = true := decide_eq_true hle
                  have hsc := sw_count (D := Dg) (k := kk) hCl h6 ⟨hc, by rw [hdg]; exact hle⟩
                  obtain ⟨c', hc'⟩ : ∃ c', (sw Dg C kk (j + 1)).count 0 = c' := ⟨_, rfl⟩
                  rw [hc'] at hsc
                  have hcb : c' ≤ n := by rw [← hc']; have := List.count_le_length (a := 0) (l := sw Dg C kk (j + 1)); rw [sw_length, hCl] at this; exact this
                  have htk : tk Dg C kk (j + 1) = true := by rw [tk, decide_eq_true (show C.getD j 0 = 0 ∧ Dg.getD j 0 ≤ kk from ⟨hc, by rw [hdg]; exact hle⟩), Bool.or_true]
                  have hsw : sw Dg C kk (j + 1) = (sw Dg C kk j).set j (kk + 1) := by rw [sw, if_pos ⟨hc, by rw [hdg]; exact hle⟩]
                  have hFZ : FRow (wr.setCell ⟨g, n + j, none⟩ (.int .u64 ((kk : Int) + 1))) g (Dg ++ sw Dg C kk (j + 1)) rest := by rw [hsw]; exact setC' hFRi hDgl (s := j) (z := kk + 1) (by rw [sw_length]; omega)
                  have hTZ := hTi.setCell (p := ⟨g, n + j, none⟩) rfl (.int .u64 ((kk : Int) + 1))
                  have hnj : j ≠ n + j := by omega
                  rw [← hsc]
                  have HN := Lib.hid (And.intro hFZ (And.intro hTZ (And.intro hc' (And.intro hlv2 htk))))
                  clear hFZ hTZ hc' hlv2 htk hsw hsc hFRi hTi RGi RCi hc hdg hlv hm hle
                  go_wp2
                  go_roundw
                  case rel => exact ⟨j + 1, by omega, by go_num, by rw [HN.out.2.2.1], by rw [HN.out.2.2.2.1], by rw [HN.out.2.2.2.2], HN.out.1, HN.out.2.1⟩
                  case measure => simp [intOf]; omega
                · have d2 : decide ((dg : Int) ≤ (kk : Int)) = false := decide_eq_false (by omega)
                  have d3 : decide (dg ≤ kk) = false := decide_eq_false hle
                  have hno : ¬ (C.getD j 0 = 0 ∧ Dg.getD j 0 ≤ kk) := fun h => hle (hdg ▸ h.2)
                  have htk : tk Dg C kk (j + 1) = tk Dg C kk j := by rw [tk, decide_eq_false hno, Bool.or_false]
                  have hsw : sw Dg C kk (j + 1) = sw Dg C kk j := by rw [sw, if_neg hno]
                  have HN := Lib.hid (And.intro hFRi (And.intro hTi (And.intro hsw (And.intro hlv2 htk))))
                  clear hlv2 htk hsw hFRi hTi RGi RCi hc hdg hlv hm hle hno
                  go_wp2
                  go_roundw
                  case rel => exact ⟨j + 1, by omega, by go_num, by rw [HN.out.2.2.1], by rw [HN.out.2.2.2.1], by rw [HN.out.2.2.2.2], by rw [HN.out.2.2.1]; exact HN.out.1, HN.out.2.1⟩
                  case measure => simp [intOf]; omega
              · obtain ⟨c, hce⟩ : ∃ c, C.getD j 0 = c := ⟨_, rfl⟩
                rw [hce] at hcj hc
                have d1 : ((c : Int) != 0) = true := by simp; omega
                have hno : ¬ (C.getD j 0 = 0 ∧ Dg.getD j 0 ≤ kk) := fun h => hc (hce ▸ h.1)
                have htk : tk Dg C kk (j + 1) = tk Dg C kk j := by rw [tk, decide_eq_false hno, Bool.or_false]
                have hsw : sw Dg C kk (j + 1) = sw Dg C kk j := by rw [sw, if_neg hno]
                have hlv2 : ls Dg C (j + 1) = ls Dg C j := by rw [ls, if_neg (fun h => hc (hce ▸ h))]
                have HN := Lib.hid (And.intro hFRi (And.intro hTi (And.intro hsw (And.intro hlv2 htk))))
                clear hlv2 htk hsw hFRi hTi RGi RCi hc hce hno
                go_wp2
                go_roundw
                case rel => exact ⟨j + 1, by omega, by go_num, by rw [HN.out.2.2.1], by rw [HN.out.2.2.2.1], by rw [HN.out.2.2.2.2], by rw [HN.out.2.2.1]; exact HN.out.1, HN.out.2.1⟩
                case measure => simp [intOf]; omega
            · obtain rfl : j = n := by omega
              have hkb : decide ((j : Int) < (j : Int)) = false := decide_eq_false (by omega)
              have hre2 := (HRe.out.1).step (by rw [Hct.out]; omega)
              have hless := step_less (es := pre) (s := (kk, C)) hCl hkl (by omega) (by rw [Hct.out]; omega)
              simp only [Peel.step, HD.out.1, Hct.out] at hre2 hless
              have hswb := sw_le (D := Dg) (C := C) (k := kk) (M := pre.length + 1) Hcb.out (by omega) j
              obtain ⟨C2, hC2⟩ : ∃ C2, sw Dg C kk j = C2 := ⟨_, rfl⟩
              have hC2l : C2.length = j := by rw [← hC2, sw_length]; exact hCl
              rw [hC2] at hre2 hless hswb hFRi ⊢
              obtain ⟨c2, hc2⟩ : ∃ c2, C2.count 0 = c2 := ⟨_, rfl⟩
              rw [hc2] at hless ⊢
              obtain ⟨lv, hlv⟩ : ∃ lv, ls Dg C j = lv := ⟨_, rfl⟩
              rw [hlv] at hre2 hless ⊢
              obtain ⟨tb, htb⟩ : ∃ tb, tk Dg C kk j = tb := ⟨_, rfl⟩
              rw [htb] at hre2 hless ⊢
              have HTT := H7.out.2.2.1.trans hTi
              cases tb with
              | true =>
                simp only [if_true] at hre2 hless
                have HN := Lib.hid (And.intro hre2 (And.intro hless (And.intro hswb (And.intro hFRi (And.intro HTT hc2)))))
                clear hre2 hless hswb hFRi HTT hc2 hlv htb hC2 hTi RGi RCi
                go_wp2
                go_roundw
                case rel => exact ⟨kk, C2, HN.out.1, hC2l, HN.out.2.1.1, HN.out.2.2.1, fun _ => HEE.out, rfl, by rw [HN.out.2.2.2.2.2], ⟨Dg, hDgl, HN.out.2.2.2.1⟩, HN.out.2.2.2.2.1⟩
                case measure => simpa [intOf] using HN.out.2.1.2
              | false =>
                simp only [Bool.false_eq_true, if_false] at hre2 hless
                have HN := Lib.hid (And.intro hre2 (And.intro hless (And.intro hswb (And.intro hFRi (And.intro HTT hc2)))))
                clear hre2 hless hswb hFRi HTT hc2 hlv htb hC2 hTi RGi RCi
                go_wp2
                go_roundw
                case rel => exact ⟨lv, C2, HN.out.1, hC2l, HN.out.2.1.1, HN.out.2.2.1, fun _ => HEE.out, rfl, by rw [HN.out.2.2.2.2.2], ⟨Dg, hDgl, HN.out.2.2.2.1⟩, HN.out.2.2.2.2.1⟩
                case measure => simpa [intOf] using HN.out.2.1.2
        · have hEb : (E != 0) = true := by simpa using hE0
          obtain ⟨r, v, q, hag⟩ := Labels.verdict_agg E (0, 0)
          have Hag := Lib.hid hag
          have HEE := Lib.hid (And.intro hE hE0)
          have H7 := Lib.hid (And.intro RV7 (And.intro RD7 (And.intro FR7 TT7)))
          clear RB7 RV7 RD7 RG7 RC7 TT7 HT7 FR7 hE hE0 hag hall hpre T67
          go_wp2_with fail
          obtain ⟨RV6, RD6, FR6, T6⟩ := H7.out
          refine (verdict (V + 1) n 0 _ _ (0, 0) E w7 RD6).mono ?_
          rintro e w8 ⟨rfl, hb7⟩
          rw [Hag.out]
          have RV7 := RV6.below hb7 RV6.lt
          have FR7 : FRow w8 g (degs C n pre ++ C) rest := Row.below FR6 hb7 (Row.lt FR6)
          have T7 := T6.trans (Turns.of_below hb7)
          have hv0 := RV7.get (i := 0) rfl
          have hv1 := RV7.get (i := 1) rfl
          have hv2 := RV7.get (i := 2) rfl
          have hf0 := RV7.free 0
          have hf1 := RV7.free 1
          have hf2 := RV7.free 2
          simp only [List.getElem_toArray, List.getElem_cons_zero, List.getElem_cons_succ] at hv0 hv1 hv2
          have RZ := ((RV7.set 0 (.bool r)).set 1 (.int .u32 v)).set 2 (.int .i64 q)
          have TZ := ((T7.more (S' := fun k => k = g ∨ k = V) (fun k h => .inl h)).setCell (p := ⟨V, 0, none⟩) (.inr rfl) (.bool r) |>.setCell (p := ⟨V, 1, none⟩) (.inr rfl) (.int .u32 v)).setCell (p := ⟨V, 2, none⟩) (.inr rfl) (.int .i64 q)
          have FZ : FRow _ g (degs C n pre ++ C) rest := ((Row.other FR7 (a := ⟨V, 0, none⟩) (by show g ≠ V; omega) (.bool r)).other (a := ⟨V, 1, none⟩) (by show g ≠ V; omega) (.int .u32 v)).other (a := ⟨V, 2, none⟩) (by show g ≠ V; omega) (.int .i64 q)
          have HZ := Lib.hid (And.intro RZ (And.intro TZ FZ))
          clear RZ TZ FZ RV6 RD6 RV7 hb7 FR6 FR7 T6 T7
          go_wp2
          obtain ⟨RZ, TZ, FZ⟩ := HZ.out
          rw [Exit.noGoto_ret]
          refine bodyPost_ret (retc_ver rfl rfl RZ) rfl ⟨(0, 0), fun h => absurd (HEE.out.1 ▸ h) HEE.out.2, by rw [HEE.out.1, Hag.out], ⟨_, FZ, by simp [degs_length, hCl]⟩, TZ.fresh (fun k h => ?_)⟩
          rcases h with h | h
          · exact .inl h
          · exact .inr (by omega)
end Go.Proofs.Ytepljdnhnnpdmaa.Cores
