/-
  The audit of colours, whole: what the program answers. No condition.
-/
import Derived.Test.YtepljdnhnnpdmaaSets5
import Derived.Test.YtepljdnhnnpdmaaCores2
import Derived.Deep.DeepCutAuto
set_option linter.unusedVariables false
set_option linter.unusedSimpArgs false
namespace Go.Proofs.Ytepljdnhnnpdmaa.Sets
open Go.RowKit Go.Shelf K Feed Desk Forest Case Rank Labels Cores

def noteF (l : List S8) (n a c : Nat) (es : List E3) : Int × Int := es.foldl (noteS l n a c) (0, 0)
theorem noteF_snoc (l : List S8) (n a c : Nat) (es : List E3) (x : E3) : noteF l n a c (es ++ [x]) = noteS l n a c (noteF l n a c es) x := by simp [noteF]
theorem col_ver {tmps : Array Value} {W : World} {V : Nat} {r : Bool} {v q c : Int} (h8 : tmps[8]? = some (.pointer (some ⟨V, 0, none⟩))) (h9 : tmps[9]? = some (.int .i64 c)) (hR : Row W V 79 #[.bool r, .int .u32 v, .int .i64 q]) :
    (results Try.f53 tmps).run Try.prog W = .ok (.tuple #[.agg #[.bool r, .int .u32 v, .int .i64 q], .int .i64 c]) W := by
  have c0 := hR.get (i := 0) rfl
  have c1 := hR.get (i := 1) rfl
  have c2 := hR.get (i := 2) rfl
  simp only [List.getElem_toArray, List.getElem_cons_zero, List.getElem_cons_succ] at c0 c1 c2
  simp [results, Try.f53, Try.results53, go_sem, h8, h9, c0, c1, c2]
set_option maxRecDepth 100000 in
set_option maxHeartbeats 4000000 in
theorem col_no (n a c R rcap b0 b1 len cap : Nat) (hn : n ≤ 4294967295) (ha : a ≤ 4294967295) (hc : c ≤ 4294967295) (A RA : Option Addr)
    (h : sitCode (isOrder n a c) len n R n ≠ 0) (w : World) :
    Calls Try.prog 53 #[.agg #[.int .u32 n, .int .u32 a, .int .u32 c], feedVal b0 b1, .slice A len cap, .slice RA R rcap] w fun e w' =>
      e = .returned (.tuple #[.agg #[.bool false, .int .u32 0, .int .i64 0], .int .i64 (sitCode (isOrder n a c) len n R n)]) ∧ Below w.heap.size w w' := by
  have hck := Lib.hid (fun W => check n a c hn ha hc W)
  have hs := Lib.hid (fun W => sit_no n 0 b0 b1 A len cap R n _ (by omega) h W)
  obtain ⟨cd, hcd⟩ : ∃ cd, sitCode (isOrder n a c) len n R n = cd := ⟨_, rfl⟩
  have hne : (cd != 0) = true := by rw [← hcd]; simpa using h
  obtain ⟨mk, hmk⟩ : ∃ mk, isOrder n a c = mk := ⟨_, rfl⟩
  rw [hcd, hmk] at hs
  rw [hmk] at hck
  rw [hcd]
  have hwn : IntKind.i64.wrap (n : Int) = n := IntWalk.i64_in _ ⟨by omega, by omega⟩
  obtain ⟨V, hV⟩ : ∃ V, w.heap.size = V := ⟨_, rfl⟩
  obtain ⟨W, hW⟩ : ∃ W, ((w.alloc (.cells #[.int .u32 n, .int .u32 a, .int .u32 c] 72)).alloc (.cells #[.slice A len cap] 69)).alloc (.cells #[.bool false, .int .u32 0, .int .i64 0] 79) = W := ⟨_, rfl⟩
  have R0 := ((Row.new w 72 #[.int .u32 n, .int .u32 a, .int .u32 c]).alloc (.cells #[.slice A len cap] 69)).alloc (.cells #[.bool false, .int .u32 0, .int .i64 0] 79)
  have R1 := (Row.at (Row.new (w.alloc (.cells #[.int .u32 n, .int .u32 a, .int .u32 c] 72)) 69 #[.slice A len cap]) (b' := V + 1) (by simp [hV])).alloc (.cells #[.bool false, .int .u32 0, .int .i64 0] 79)
  have R8 := Row.at (Row.new ((w.alloc (.cells #[.int .u32 n, .int .u32 a, .int .u32 c] 72)).alloc (.cells #[.slice A len cap] 69)) 79 #[.bool false, .int .u32 0, .int .i64 0]) (b' := V + 1 + 1) (by simp [hV])
  have B0 := (((Below.refl w.heap.size w).alloc (Nat.le_refl _) (.cells #[.int .u32 n, .int .u32 a, .int .u32 c] 72)).alloc (by simp) (.cells #[.slice A len cap] 69)).alloc (by simp; omega) (.cells #[.bool false, .int .u32 0, .int .i64 0] 79)
  have SW : W.heap.size = V + 3 := by rw [← hW]; simp [hV]
  rw [hV] at R0
  rw [hW] at R0 R1 R8 B0
  have X2 := Lib.hid (show PI W V #[.int .u32 n, .int .u32 a, .int .u32 c] (.slice A len cap) W from ⟨R0, R1, Below.refl _ _⟩)
  have hS2 := X2.out.cells
  have HW := Lib.hid (And.intro R8 B0)
  clear R0 R1 R8 B0 h hcd hmk
  go_enter Try.func53, Try.ntmps53
  go_upto_region 1 with fail
  have HV := Lib.hid (And.intro hV SW)
  have hVW : V + 1 + 1 < W.heap.size := by omega
  clear hV hW SW
  go_cut [10, 11] (fun x y wx => ∃ Bd, x = .pointer (some ⟨Bd, 0, none⟩) ∧ y = .int .i64 cd ∧ CutI Bd none W wx)
  case first =>
    go_region_held3 (fun X => X.cell? ⟨V, 0, none⟩ = some (.int .u32 n) ∧ X.cell? ⟨V, 1, none⟩ = some (.int .u32 a) ∧ X.cell? ⟨V, 2, none⟩ = some (.int .u32 c) ∧ X.cell? ⟨V + 1, 0, none⟩ = some (.slice A len cap))
      (first
        | with_reducible exact (P3.alloc _).cells
        | with_reducible exact P5.cells
        | with_reducible exact P5a.cells
        | with_reducible exact P3.cells
        | with_reducible exact (X2.out.alloc _).drew.cells
        | exact hS2)
      (first
        | (go_simp; go_at_call 85
           refine (hck.out _).mono ?_
           rintro e w3 ⟨rfl, hb3⟩
           have s3 := hb3.size
           try simp only [World.size_alloc, World.size_drew] at s3
           (first | (have P3 := (X2.out.alloc _).drew.below hb3; have V3 : Row w3 W.heap.size 107 #[.pointer none] := ((Row.new W 107 #[.pointer none]).drew).below hb3 (by simp); have hv0 : w3.cell? ⟨W.heap.size, 0, none⟩ = some (.pointer none) := V3.get rfl; have hf0 := V3.free 0; have P5 := P3.set (p := ⟨W.heap.size, 0, none⟩) (Nat.le_refl _) (by omega) (.pointer none)) | (have P3 := X2.out.drew.below hb3)))
        | (go_simp; go_at_call 66
           refine (hs.out _).mono ?_
           rintro e w4 ⟨rfl, rfl⟩))
    all_goals
      go_wp2_with fail
      go_meet
      first
        | exact ⟨W.heap.size, rfl, rfl, ⟨V3.set 0 _, P5.b, Nat.le_refl _⟩⟩
        | exact ⟨w3.heap.size, rfl, rfl, ⟨Row.new w3 _ _, (P3.alloc _).b, by omega⟩⟩
  case rest =>
    obtain ⟨Bd, rfl, rfl, hcu⟩ := hcut
    obtain ⟨hV, SW⟩ := HV.out
    obtain ⟨RV0, B0⟩ := HW.out
    have RV4 := RV0.below hcu.b (by omega)
    have B4 := Lib.hid (B0.trans (hcu.b.mono (by omega)))
    have hv0 := RV4.get (i := 0) rfl
    have hv1 := RV4.get (i := 1) rfl
    have hv2 := RV4.get (i := 2) rfl
    have hf0 := RV4.free 0
    have hf1 := RV4.free 1
    have hf2 := RV4.free 2
    simp only [List.getElem_toArray, List.getElem_cons_zero, List.getElem_cons_succ] at hv0 hv1 hv2
    have RZ := Lib.hid (((RV4.set 0 (.bool false)).set 1 (.int .u32 0)).set 2 (.int .i64 0))
    have BZ := Lib.hid (((B4.out.setCell (p := ⟨V + 1 + 1, 0, none⟩) (by show w.heap.size ≤ V + 1 + 1; omega) (.bool false)).setCell (p := ⟨V + 1 + 1, 1, none⟩) (by show w.heap.size ≤ V + 1 + 1; omega) (.int .u32 0)).setCell (p := ⟨V + 1 + 1, 2, none⟩) (by show w.heap.size ≤ V + 1 + 1; omega) (.int .i64 0))
    clear hV SW RV0 B0 hcu RV4
    go_wp2
    exact bodyPost_ret (col_ver rfl rfl RZ.out) rfl ⟨rfl, BZ.out⟩
set_option maxRecDepth 100000 in
set_option maxHeartbeats 4000000 in
theorem col_yes (n a c R rcap g lo hi n₀ b0 b1 cap : Nat) (ha : a ≤ 4294967295) (hc : c ≤ 4294967295) (A : Option Addr) (l : List S8) (es : List E3) (beh : Int) (rest : List Value) (F0 : List Nat) (hr : es.length * 12 ≤ 140737488351232) (hRc : R ≤ rcap) (hR5 : R ≤ 5000)
    (h : sitCode (isOrder n a c) l.length n R n = 0) (w : World) (hA : Lay w n₀ A (svs l)) (hn₀ : n₀ ≤ g) (hF : FeedFrom lo w hi b0 b1 es beh) (hg : g < lo) (hlo : lo ≤ hi) (hhi : hi ≤ w.heap.size)
    (hR : FRow w g F0 rest) (hF0 : F0.length = n) :
    Calls Try.prog 53 #[.agg #[.int .u32 n, .int .u32 a, .int .u32 c], feedVal b0 b1, .slice A l.length cap, .slice (some ⟨g, 0, none⟩) R rcap] w (SetsPost lookC (noteF l n a c) (foldS l n a c) n g rest l es beh w) := by
  obtain ⟨hO, n3, n4⟩ := sit_of h
  obtain ⟨m1, m2, m3, m4⟩ := isOrder_yes hO
  have hck := Lib.hid (fun W => by exact (hO ▸ check n a c (by omega) ha hc W : Calls Try.prog 85 #[.agg #[.int .u32 n, .int .u32 a, .int .u32 c]] W fun e w' => e = .returned (.int .i64 0) ∧ Below W.heap.size W w'))
  have hs := Lib.hid (fun W => sit_yes n 0 b0 b1 A l.length cap R n 0 (by omega) (hO ▸ h) W)
  have hwn : IntKind.i64.wrap (n : Int) = n := IntWalk.i64_in _ ⟨by omega, by omega⟩
  obtain ⟨V, hV⟩ : ∃ V, w.heap.size = V := ⟨_, rfl⟩
  obtain ⟨W, hW⟩ : ∃ W, ((w.alloc (.cells #[.int .u32 n, .int .u32 a, .int .u32 c] 72)).alloc (.cells #[.slice A l.length cap] 69)).alloc (.cells #[.bool false, .int .u32 0, .int .i64 0] 79) = W := ⟨_, rfl⟩
  have R0 := ((Row.new w 72 #[.int .u32 n, .int .u32 a, .int .u32 c]).alloc (.cells #[.slice A l.length cap] 69)).alloc (.cells #[.bool false, .int .u32 0, .int .i64 0] 79)
  have R1 := (Row.at (Row.new (w.alloc (.cells #[.int .u32 n, .int .u32 a, .int .u32 c] 72)) 69 #[.slice A l.length cap]) (b' := V + 1) (by simp [hV])).alloc (.cells #[.bool false, .int .u32 0, .int .i64 0] 79)
  have R8 := Row.at (Row.new ((w.alloc (.cells #[.int .u32 n, .int .u32 a, .int .u32 c] 72)).alloc (.cells #[.slice A l.length cap] 69)) 79 #[.bool false, .int .u32 0, .int .i64 0]) (b' := V + 1 + 1) (by simp [hV])
  have T0 := (((Turns.refl (fun _ => False) w).alloc (.cells #[.int .u32 n, .int .u32 a, .int .u32 c] 72)).alloc (.cells #[.slice A l.length cap] 69)).alloc (.cells #[.bool false, .int .u32 0, .int .i64 0] 79)
  have SW : W.heap.size = V + 3 := by rw [← hW]; simp [hV]
  rw [hV] at R0
  rw [hW] at R0 R1 R8 T0
  have X2 := Lib.hid (show PI W V #[.int .u32 n, .int .u32 a, .int .u32 c] (.slice A l.length cap) W from ⟨R0, R1, Below.refl _ _⟩)
  have hS2 := X2.out.cells
  have HW := Lib.hid (And.intro R8 T0)
  have HA := Lib.hid hA
  have HF := Lib.hid hF
  have HR := Lib.hid hR
  have HO := Lib.hid (And.intro hO (And.intro n3 hF0))
  have lg := Row.lt hR
  clear R0 R1 R8 T0 hA hF hR hO h hF0 n3
  have hn1 : 1 ≤ n := by omega
  have hn5 : n ≤ 5000 := by omega
  go_enter Try.func53, Try.ntmps53
  go_upto_region 1 with fail
  have HV := Lib.hid (And.intro hV SW)
  have hVW : V + 1 + 1 < W.heap.size := by omega
  clear hV hW SW
  go_cut [10, 11] (fun x y wx => ∃ Bd D, x = .pointer (some ⟨Bd, 0, none⟩) ∧ y = .int .i64 0 ∧ CutI Bd (some ⟨D, 0, none⟩) W wx ∧ Row wx D 152 (deskRow n 0 (feedVal b0 b1) (.slice A l.length cap) false 0 0) ∧ W.heap.size ≤ D ∧ Bd ≠ D)
  case first =>
    go_region_held3 (fun X => X.cell? ⟨V, 0, none⟩ = some (.int .u32 n) ∧ X.cell? ⟨V, 1, none⟩ = some (.int .u32 a) ∧ X.cell? ⟨V, 2, none⟩ = some (.int .u32 c) ∧ X.cell? ⟨V + 1, 0, none⟩ = some (.slice A l.length cap))
      (first
        | with_reducible exact P5.cells
        | with_reducible exact (P4.alloc _).cells
        | with_reducible exact P4.cells
        | with_reducible exact (P3.alloc _).cells
        | with_reducible exact P3.cells
        | with_reducible exact (X2.out.alloc _).drew.cells
        | exact hS2)
      (first
        | (go_simp; go_at_call 85
           refine (hck.out _).mono ?_
           rintro e w3 ⟨rfl, hb3⟩
           have s3 := hb3.size
           try simp only [World.size_alloc, World.size_drew] at s3
           (first | (have P3 := (X2.out.alloc _).drew.below hb3; have V3 : Row w3 W.heap.size 107 #[.pointer none] := ((Row.new W 107 #[.pointer none]).drew).below hb3 (by simp)) | (have P3 := X2.out.drew.below hb3)))
        | (go_simp; go_at_call 66
           refine (hs.out _).mono ?_
           rintro e w4 ⟨rfl, hw4⟩
           have s4 : W.heap.size < w4.heap.size := by rw [hw4]; (try simp only [World.size_alloc]); omega
           (first
             | (have P4 : PI W V _ _ w4 := hw4 ▸ (P3.alloc _).alloc _; have R4 : Row w4 (w3.heap.size + 1) _ _ := hw4 ▸ Row.at (Row.new (w3.alloc _) 152 (deskRow n 0 (feedVal b0 b1) (.slice A l.length cap) false 0 0)) (by simp); have V4 : Row w4 w3.heap.size 107 #[.pointer none] := hw4 ▸ (Row.new w3 107 #[.pointer none]).alloc _; have hv0 : w4.cell? ⟨w3.heap.size, 0, none⟩ = some (.pointer none) := V4.get rfl; have hf0 := V4.free 0; have P5 := P4.set (p := ⟨w3.heap.size, 0, none⟩) (by show W.heap.size ≤ w3.heap.size; omega) (by omega) (.pointer (some ⟨w3.heap.size + 1, 0, none⟩)))
             | (have P4 : PI W V _ _ w4 := hw4 ▸ P3.alloc _; have R4 : Row w4 w3.heap.size _ _ := hw4 ▸ Row.new w3 152 (deskRow n 0 (feedVal b0 b1) (.slice A l.length cap) false 0 0); have V4 : Row w4 W.heap.size 107 #[.pointer none] := hw4 ▸ V3.alloc _; have hv0 : w4.cell? ⟨W.heap.size, 0, none⟩ = some (.pointer none) := V4.get rfl; have hf0 := V4.free 0; have P5 := P4.set (p := ⟨W.heap.size, 0, none⟩) (Nat.le_refl _) (by omega) (.pointer (some ⟨w3.heap.size, 0, none⟩)))
             | (have P4 : PI W V _ _ w4 := hw4 ▸ P3.alloc _; have R4 : Row w4 w3.heap.size _ _ := hw4 ▸ Row.new w3 152 (deskRow n 0 (feedVal b0 b1) (.slice A l.length cap) false 0 0)))
           clear hw4))
    all_goals
      go_wp2_with fail
      go_meet
      first
        | exact ⟨w3.heap.size, w3.heap.size + 1, rfl, rfl, ⟨V4.set 0 _, P5.b, by omega⟩, R4.other (a := ⟨w3.heap.size, 0, none⟩) (by show w3.heap.size + 1 ≠ w3.heap.size; omega) _, by omega, by omega⟩
        | exact ⟨W.heap.size, w3.heap.size, rfl, rfl, ⟨V4.set 0 _, P5.b, Nat.le_refl _⟩, R4.other (a := ⟨W.heap.size, 0, none⟩) (by show w3.heap.size ≠ W.heap.size; omega) _, by omega, by omega⟩
        | exact ⟨w4.heap.size, w3.heap.size, rfl, rfl, ⟨Row.new w4 _ _, (P4.alloc _).b, by omega⟩, R4.alloc _, by omega, by have := R4.lt; omega⟩
  case rest =>
    obtain ⟨Bd, D, rfl, rfl, hcu, RD4, hD1, hD2⟩ := hcut
    obtain ⟨hV, SW⟩ := HV.out
    obtain ⟨RV0, T0⟩ := HW.out
    have RB4 := hcu.rb
    have RV4 := RV0.below hcu.b (by omega)
    have RR4 := X2.out.r0.below hcu.b (by omega)
    have RS4 := X2.out.r1.below hcu.b (by omega)
    have T4 := T0.trans (Turns.of_below hcu.b)
    have S4 := hcu.b.size
    have hfb := hcu.fb
    have hBl := RB4.lt
    have hDl := RD4.lt
    have c0 := RR4.get (i := 0) rfl
    simp only [List.getElem_toArray, List.getElem_cons_zero] at c0
    have hnr : (n : Int) ≤ (rcap : Int) := by omega
    have hvw : V + 1 + 1 < W.heap.size := hVW
    obtain ⟨W4, hW4⟩ : ∃ W4, wc.alloc (.cells #[.slice (some ⟨g, 0, none⟩) n rcap] 76) = W4 := ⟨_, rfl⟩
    obtain ⟨Bh, hBh⟩ : ∃ Bh, wc.heap.size = Bh := ⟨_, rfl⟩
    have RH4 := (Row.new wc 76 #[.slice (some ⟨g, 0, none⟩) n rcap]).at hBh
    replace RB4 := RB4.alloc (.cells #[.slice (some ⟨g, 0, none⟩) n rcap] 76)
    replace RV4 := RV4.alloc (.cells #[.slice (some ⟨g, 0, none⟩) n rcap] 76)
    replace RR4 := RR4.alloc (.cells #[.slice (some ⟨g, 0, none⟩) n rcap] 76)
    replace RS4 := RS4.alloc (.cells #[.slice (some ⟨g, 0, none⟩) n rcap] 76)
    replace RD4 := RD4.alloc (.cells #[.slice (some ⟨g, 0, none⟩) n rcap] 76)
    replace T4 := T4.alloc (.cells #[.slice (some ⟨g, 0, none⟩) n rcap] 76)
    have SS4 : W4.heap.size = Bh + 1 := by rw [← hW4]; simp [hBh]
    rw [hW4] at RB4 RV4 RR4 RS4 RD4 RH4 T4
    have HR4 : FRow W4 g (F0 ++ []) rest := by rw [List.append_nil]; exact T4.row HR.out (fun h => h)
    have ch := RH4.get (i := 0) rfl
    simp only [List.getElem_toArray, List.getElem_cons_zero] at ch
    obtain ⟨hO, n3, hF0⟩ := HO.out
    obtain ⟨W5, hclr, HR5, T45⟩ := clearD (cap := rcap) HR4 hF0 hn1 0
    rw [List.append_nil] at HR5
    have hgV : g < V := by omega
    have RB5 := T45.row RB4 (by omega)
    have RV5 := T45.row RV4 (by omega)
    have RR5 := T45.row RR4 (by omega)
    have RS5 := T45.row RS4 (by omega)
    have RD5 := T45.row RD4 (by omega)
    have RH5 := T45.row RH4 (by omega)
    have T5 := (T4.more (S' := fun k => k = g) (fun k h => h.elim)).trans T45
    have S5 := T45.size
    have cb5 := RB5.get (i := 0) rfl
    simp only [List.getElem_toArray, List.getElem_cons_zero] at cb5
    have H5 := Lib.hid (And.intro RB5 (And.intro RV5 (And.intro RR5 (And.intro RS5 (And.intro RD5 (And.intro RH5 (And.intro T5 HR5)))))))
    have HWH := Lib.hid (And.intro hW4 hBh)
    clear RB4 RV4 RR4 RS4 RD4 RH4 T4 HR4 T45 RB5 RV5 RR5 RS5 RD5 RH5 T5 HR5 hO n3 hF0 hV SW RV0 T0 hcu
    go_wp2_with fail
    obtain ⟨RB5, RV5, RR5, RS5, RD5, RH5, T5, HR5⟩ := H5.out
    obtain ⟨hO, n3, hF0⟩ := HO.out
    obtain ⟨hV, SW⟩ := HV.out
    have hF5 : FeedFrom lo W5 hi b0 b1 es beh := fun W' h => HF.out W' fun k h1 h2 => (h k h1 h2).trans (T5.block k (by omega) (by show k ≠ g; omega))
    have hA5 : Lay W5 n₀ A (svs l) := HA.out.below (T5.below (by omega) (fun k h => by omega))
    have hln : l.length = n := by omega
    refine (over' n 0 (by decide) D b0 b1 lo hi es beh hr 90 #[.pointer (some ⟨V, 0, none⟩), .pointer (some ⟨Bd, 0, none⟩), .pointer (some ⟨V + 1, 0, none⟩), .pointer (some ⟨Bh, 0, none⟩)] (fun args W => rfl)
      (fun pre X => Turns (fun k => k = g ∨ k = D) W5 X ∧ FRow X g (foldS l n a c pre) rest ∧ Row X D 152 (deskRow n 0 (feedVal b0 b1) (.slice A l.length cap) false ((noteF l n a c) pre).1 ((noteF l n a c) pre).2)) W5 hF5 (by omega) (desk2 RD5)
      (fun pre X hJ => ⟨desk0 hJ.2.2, desk1 hJ.2.2⟩)
      (fun pre X X' hJ hb => ⟨hJ.1.then_below hb (Nat.le_refl _), Row.below hJ.2.1 hb (by omega), hJ.2.2.below hb (by omega)⟩)
      (fun pre x X hJ hx hsz => ?see) ⟨Turns.refl _ _, HR5, RD5⟩).mono ?_
    case see =>
      obtain ⟨hT, hFR, hRD⟩ := hJ
      have hxx : x.s < n ∧ x.d < n := by
        unfold wrong at hx
        by_cases h1 : (n : Int) ≤ x.s ∨ (n : Int) ≤ x.d
        · rw [if_pos h1] at hx; cases hx
        · omega
      refine (seeC n a c g rcap cap V (V + 1) Bh Bd D n₀ A l rest (foldS l n a c pre) n 0 (feedVal b0 b1) (.slice A l.length cap) (noteF l n a c pre) hO (foldS_length l n a c pre) (foldS_lt l n a c pre) hln hn5 x hxx.1 hxx.2 (by omega) (by omega) (by omega) (by omega) (by omega) (by omega) X (by omega) (by omega) (hA5.below (hT.below (by omega) (fun k h => by omega))) hFR
        (hT.row RR5 (by omega)) (hT.row RS5 (by omega)) (hT.row RH5 (by omega)) (hT.row RB5 (by omega)) hRD).mono ?_
      rintro e X' ⟨he, hF', hRD', hT2⟩
      exact ⟨he, ⟨hT.trans hT2, by rw [foldS_snoc]; exact hF', by rw [noteF_snoc]; exact hRD'⟩, Stay.of_turns hT2 (by omega) (fun k h1 h2 h3 => by omega), hT2.above (fun k h => by omega)⟩
    rintro e w6 ⟨rfl, pre, hpre, hall, T56, FR6, RD6⟩
    obtain ⟨E, hE⟩ : ∃ E, oerr n 0 beh es = E := ⟨_, rfl⟩
    rw [hE] at hall ⊢
    have RV6 := T56.row RV5 (by omega)
    have RB6 := T56.row RB5 (by omega)
    have RH6 := T56.row RH5 (by omega)
    have T6 := (T5.more (S' := fun k => k = g ∨ k = D) (fun k h => .inl h)).trans T56
    have S6 := T56.size
    have cb6 := RB6.get (i := 0) rfl
    simp only [List.getElem_toArray, List.getElem_cons_zero] at cb6
    have HE := Lib.hid (And.intro hE (And.intro hall hpre))
    have H6 := Lib.hid (And.intro RV6 (And.intro RB6 (And.intro RH6 (And.intro T6 (And.intro FR6 RD6)))))
    clear RB5 RV5 RR5 RS5 RD5 RH5 T5 HR5 hO n3 hF0 hV SW hF5 hA5 RV6 RB6 RH6 T6 FR6 RD6 T56 hE hall hpre cb5 hclr ch
    have HLN := Lib.hid hln
    clear hln
    go_wp2_with fail
    obtain ⟨RV6, RB6, RH6, T6, FR6, RD6⟩ := H6.out
    have hln := HLN.out
    obtain ⟨hV, SW⟩ := HV.out
    have hA6 : Lay w6 n₀ A (svs l) := HA.out.below (T6.below (by omega) (fun k h => by omega))
    refine (each D n₀ A l cap (by omega) 91 #[.pointer (some ⟨Bd, 0, none⟩), .pointer (some ⟨Bh, 0, none⟩)] (fun args W => rfl)
      (fun i X => Turns (fun k => k = D) w6 X ∧ Row X D 152 (deskRow n 0 (feedVal b0 b1) (.slice A l.length cap) false (notesL lookC ((noteF l n a c) pre) l (foldS l n a c pre) i).1 (notesL lookC ((noteF l n a c) pre) l (foldS l n a c pre) i).2)) w6
      (desk3 RD6) hA6 (by omega)
      (fun i X X' hJ hb => ⟨hJ.1.trans (Turns.of_below hb), hJ.2.below hb (by have := hJ.1.size; omega)⟩) (fun i x X hJ hx hsz => ?see2) ⟨Turns.refl _ _, RD6⟩).mono ?_
    case see2 =>
      obtain ⟨hT, hRD⟩ := hJ
      have hil := (List.getElem?_eq_some_iff.1 hx).1
      refine (lookCs n g rcap Bh Bd D rest (foldS l n a c pre) n 0 (feedVal b0 b1) (.slice A l.length cap) _ i x (by omega) hn5 (foldS_length l n a c pre) (foldS_lt l n a c pre) (by omega) (by omega) (by omega) X (hT.row FR6 (by omega)) (hT.row RH6 (by omega)) (hT.row RB6 (by omega)) hRD).mono ?_
      rintro e X' ⟨he, hRD', hT'⟩
      refine ⟨he, ⟨hT.trans hT', ?_⟩, hT'.below (by omega) (fun k h => by omega)⟩
      rw [notesL, show l.getD i zero8 = x by rw [List.getD_eq_getElem?_getD, hx]; rfl]
      exact hRD'
    rintro e w7 ⟨rfl, ⟨T67, RD7⟩, hb7⟩
    have RV7 := T67.row RV6 (by omega)
    have RB7 := T67.row RB6 (by omega)
    have FR7 : FRow w7 g (foldS l n a c pre) rest := T67.row FR6 (by omega)
    have T7 := T6.trans (T67.more (S' := fun k => k = g ∨ k = D) (fun k h => .inr h))
    rw [hln] at RD7
    have S7 := T67.size
    have cb7 := RB7.get (i := 0) rfl
    simp only [List.getElem_toArray, List.getElem_cons_zero] at cb7
    obtain ⟨fn, hfn⟩ : ∃ fn, notesL lookC ((noteF l n a c) pre) l (foldS l n a c pre) n = fn := ⟨_, rfl⟩
    rw [hfn] at RD7
    obtain ⟨r, v, q, hag⟩ := Labels.verdict_agg E fn
    have Hag := Lib.hid (And.intro hag hfn)
    have H7 := Lib.hid (And.intro RV7 (And.intro RD7 (And.intro FR7 T7)))
    clear RV6 RB6 RH6 T6 FR6 RD6 hA6 T67 RV7 RB7 FR7 T7 RD7 hb7 hag hfn hln hV SW cb6
    go_wp2_with fail
    obtain ⟨RV7, RD7, FR7, T7⟩ := H7.out
    obtain ⟨hV, SW⟩ := HV.out
    refine (verdict D n 0 _ _ fn E w7 RD7).mono ?_
    rintro e w8 ⟨rfl, hb8⟩
    rw [Hag.out.1]
    have RV8 := RV7.below hb8 RV7.lt
    have FR8 : FRow w8 g (foldS l n a c pre) rest := Row.below FR7 hb8 (Row.lt FR7)
    have T8 := T7.trans (Turns.of_below hb8)
    have hv0 := RV8.get (i := 0) rfl
    have hv1 := RV8.get (i := 1) rfl
    have hv2 := RV8.get (i := 2) rfl
    have hf0 := RV8.free 0
    have hf1 := RV8.free 1
    have hf2 := RV8.free 2
    simp only [List.getElem_toArray, List.getElem_cons_zero, List.getElem_cons_succ] at hv0 hv1 hv2
    have RZ := ((RV8.set 0 (.bool r)).set 1 (.int .u32 v)).set 2 (.int .i64 q)
    have TZ := ((T8.more (S' := fun k => k = g ∨ k = D ∨ k = V + 1 + 1) (fun k h => h.elim .inl (fun h => .inr (.inl h)))).setCell (p := ⟨V + 1 + 1, 0, none⟩) (.inr (.inr rfl)) (.bool r) |>.setCell (p := ⟨V + 1 + 1, 1, none⟩) (.inr (.inr rfl)) (.int .u32 v)).setCell (p := ⟨V + 1 + 1, 2, none⟩) (.inr (.inr rfl)) (.int .i64 q)
    have FZ : FRow _ g (foldS l n a c pre) rest := ((Row.other FR8 (a := ⟨V + 1 + 1, 0, none⟩) (by show g ≠ V + 1 + 1; omega) (.bool r)).other (a := ⟨V + 1 + 1, 1, none⟩) (by show g ≠ V + 1 + 1; omega) (.int .u32 v)).other (a := ⟨V + 1 + 1, 2, none⟩) (by show g ≠ V + 1 + 1; omega) (.int .i64 q)
    have HZ := Lib.hid (And.intro RZ (And.intro TZ FZ))
    clear RZ TZ FZ RV7 RD7 RV8 hb8 FR7 FR8 T7 T8 hV SW
    go_wp2
    obtain ⟨RZ, TZ, FZ⟩ := HZ.out
    obtain ⟨hE, hall, hpre⟩ := HE.out
    obtain ⟨hV, SW⟩ := HV.out
    refine bodyPost_ret (col_ver rfl rfl RZ) rfl ⟨pre, hpre, by rw [hE]; exact hall, by rw [hE, Hag.out.2, Hag.out.1], ⟨_, FZ, foldS_length l n a c pre⟩, TZ.fresh (fun k h => ?_)⟩
    rcases h with h | h | h
    · exact .inl h
    · exact .inr (by omega)
    · exact .inr (by omega)
end Go.Proofs.Ytepljdnhnnpdmaa.Sets
