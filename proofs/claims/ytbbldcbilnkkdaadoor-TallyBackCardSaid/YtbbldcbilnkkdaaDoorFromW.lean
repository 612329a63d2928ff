/-
  FromText of the program: the walk. No condition.
-/
import Derived.Test.YtbbldcbilnkkdaaDoorFromT
set_option linter.unusedVariables false
set_option linter.unusedSimpArgs false
namespace Go.Proofs.YtbbldcbilnkkdaaDoor.Parse
open Go.RowKit Go.ChangeShapes Num Tly Ref K Reck Wide

theorem trim0 (s : ByteArray) (l : List UInt8) (hs : s = ⟨l.toArray⟩) (W : World) : Calls Tryd.prog 39 #[.string s, .string ⟨#[48]⟩] W fun e w' => e = .returned (.string ⟨(l.dropWhile (· == 48)).toArray⟩) ∧ w' = W := by
  subst hs
  exact Tryd.strings_TrimLeft_one ⟨l.toArray⟩ 48 (by decide) W
theorem trimr0 (s : ByteArray) (l : List UInt8) (hs : s = ⟨l.toArray⟩) (hl : l.length ≤ 1000) (W : World) : Calls Tryd.prog 40 #[.string s, .string ⟨#[48]⟩] W fun e w' => e = .returned (.string ⟨(Lib.trimRightB l 48).toArray⟩) ∧ w' = W := by
  subst hs
  exact Tryd.strings_TrimRight_one ⟨l.toArray⟩ 48 (by decide) W (by rw [Lib.size_mk]; omega)
set_option maxRecDepth 100000 in
set_option maxHeartbeats 4000000 in
theorem fromText (l : List UInt8) (w : World) :
    Calls Tryd.prog 13 #[.string ⟨l.toArray⟩] w fun e w' => e = .returned (.tuple #[.agg (wv (fromT l).1), .int .i64 (fromT l).2]) ∧ Below w.heap.size w w' := by
  obtain ⟨F, hF⟩ : ∃ F, F = fromT l := ⟨_, rfl⟩
  rw [← hF]
  unfold fromT at hF
  have h1 : (⟨l.toArray⟩ : ByteArray).size = l.length := Lib.size_mk _
  obtain ⟨t, ht⟩ : ∃ t, t = (⟨l.toArray⟩ : ByteArray) := ⟨_, rfl⟩
  rw [← ht] at h1 ⊢
  have HT := Lib.hid ht
  have HZ := Lib.hid (Row.new w 26 (cv [0, 0, 0, 0, 0, 0]))
  have HB := Lib.hid ((Below.refl w.heap.size w).alloc (Nat.le_refl _) (.cells (cv [0, 0, 0, 0, 0, 0]) 26))
  clear ht
  by_cases hc : 600 < l.length
  case pos =>
    have HF := Lib.hid (show F = (0, 4) by rw [hF, if_pos hc])
    have hci : (600 : Int) < (l.length : Int) := by omega
    clear hF hc
    go_enter Tryd.func13, Tryd.ntmps13
    go_wp2_with (refine wpList_store_row rfl 26 _ _ rfl (w.heap.size) _ rfl rfl 26 _ HZ.out ?_ ?_ ?_ ?_; kernel_rfl; (first | (rw [wv_size, wv_size]) | kernel_rfl); (first | exact cv_one _ | kernel_rfl))
    refine bodyPost_ret (v := .tuple #[.agg (_), .int .i64 4]) (results_two Tryd.results13 _ _ (w.heap.size) 26 _ _ rfl _ rfl (HZ.out.put _) Tryd.underlying26 rfl (by kernel_rfl)) rfl ⟨by rw [HF.out, show wv 0 = cv [0, 0, 0, 0, 0, 0] from wv_zero]; rfl, Row.put_below HB.out HZ.out (Nat.le_refl _) _⟩
  case neg =>
    rw [if_neg hc] at hF
    have hci : ¬ ((600 : Int) < (l.length : Int)) := by omega
    have hdc := decimal l (by omega)
    have hdf := dec_facts l (by omega)
    rw [← HT.out] at hdc
    obtain ⟨⟨ng, ds, pw, ok⟩, hD⟩ : ∃ D, D = decR l := ⟨_, rfl⟩
    rw [← hD] at hF hdc hdf
    have HDC := Lib.hid hdc
    have HDF := Lib.hid hdf
    clear hc hdc hdf hD
    cases ok with
    | false =>
      have HF := Lib.hid (show F = (0, 15) by rw [hF]; rfl)
      clear hF
      go_enter Tryd.func13, Tryd.ntmps13
      go_wp2_with fail
      refine (HDC.out _).mono ?_
      rintro e w1 ⟨rfl, k1⟩
      have Z1 := Lib.hid (HZ.out.below k1 HZ.out.lt)
      have B1 := Lib.hid (HB.out.trans (k1.mono HB.out.size))
      clear k1 HZ HB
      go_wp2_with (refine wpList_store_row rfl 26 _ _ rfl (w.heap.size) _ rfl rfl 26 _ Z1.out ?_ ?_ ?_ ?_; kernel_rfl; (first | (rw [wv_size, wv_size]) | kernel_rfl); (first | exact cv_one _ | kernel_rfl))
      refine bodyPost_ret (v := .tuple #[.agg (_), .int .i64 15]) (results_two Tryd.results13 _ _ (w.heap.size) 26 _ _ rfl _ rfl (Z1.out.put _) Tryd.underlying26 rfl (by kernel_rfl)) rfl ⟨by rw [HF.out, show wv 0 = cv [0, 0, 0, 0, 0, 0] from wv_zero]; rfl, Row.put_below B1.out Z1.out (Nat.le_refl _) _⟩
    | true =>
      replace hF : F = fromD ng ds pw := hF
      unfold fromD at hF
      have htl := trim0 _ ds rfl
      obtain ⟨g, hg⟩ : ∃ g, g = ds.dropWhile (· == 48) := ⟨_, rfl⟩
      have hgl : g.length ≤ 1000 := by have := dropWhile_len (· == 48) ds; have := HDF.out.2.2.2; simp only at this; rw [hg]; omega
      have hgd : AllDig g := alldig_of_mem (fun c hc => mem_of_alldig HDF.out.1 c (by rw [hg] at hc; exact (List.dropWhile_sublist _).mem hc))
      have HG := Lib.hid hg
      rw [← hg] at hF htl
      have e1 : (⟨g.toArray⟩ : ByteArray).toList.isEmpty = g.isEmpty := toList_isEmpty g
      have e2 : (⟨g.toArray⟩ : ByteArray).size = g.length := Lib.size_mk g
      have htr := trimr0 _ g rfl hgl
      obtain ⟨gb, hgb⟩ : ∃ gb, gb = (⟨g.toArray⟩ : ByteArray) := ⟨_, rfl⟩
      rw [← hgb] at e1 e2 htl htr
      have HTL := Lib.hid htl
      clear hg htl hgb
      cases hgc : g with
      | nil =>
        have HF := Lib.hid (show F = (0, 0) by rw [hF, if_pos hgc])
        rw [hgc, show ([] : List UInt8).isEmpty = true from rfl] at e1
        clear hF hgc e2 htr hgd
        go_enter Tryd.func13, Tryd.ntmps13
        go_wp2_with fail
        refine (HDC.out _).mono ?_
        rintro e w1 ⟨rfl, k1⟩
        have Z1 := Lib.hid (HZ.out.below k1 HZ.out.lt)
        have B1 := Lib.hid (HB.out.trans (k1.mono HB.out.size))
        clear k1 HZ HB
        go_wp2_with fail
        refine (HTL.out _).mono ?_
        rintro e w2 ⟨rfl, rfl⟩
        go_wp2_with (refine wpList_store_row rfl 26 _ _ rfl (w.heap.size) _ rfl rfl 26 _ Z1.out ?_ ?_ ?_ ?_; kernel_rfl; (first | (rw [wv_size, wv_size]) | kernel_rfl); (first | exact cv_one _ | kernel_rfl))
        refine bodyPost_ret (v := .tuple #[.agg (_), .int .i64 0]) (results_two Tryd.results13 _ _ (w.heap.size) 26 _ _ rfl _ rfl (Z1.out.put _) Tryd.underlying26 rfl (by kernel_rfl)) rfl ⟨by rw [HF.out, show wv 0 = cv [0, 0, 0, 0, 0, 0] from wv_zero]; rfl, Row.put_below B1.out Z1.out (Nat.le_refl _) _⟩
      | cons c u =>
        have hcn : c ≠ 48 := drop_head_ne (by rw [← hgc]; exact HG.out.symm)
        have hgn : ¬ g = [] := by rw [hgc]; simp
        rw [if_neg hgn] at hF
        have hie : g.isEmpty = false := by rw [hgc]; rfl
        rw [hie] at e1
        have hsp := trim_split g
        have hth := trim_head (t := u) hcn
        rw [← hgc] at hth
        obtain ⟨s, hs⟩ : ∃ s, s = Lib.trimRightB g 48 := ⟨_, rfl⟩
        rw [← hs] at hF htr hsp hth
        have hsd : AllDig s := alldig_of_mem (fun x hx => mem_of_alldig hgd x (by rw [hsp]; exact List.mem_append_left _ hx))
        have hsl : s.length ≤ g.length := by have := congrArg List.length hsp; rw [List.length_append] at this; omega
        have hspos : 0 < nval s := by
          obtain ⟨u', hu⟩ := hth
          rw [hu]
          exact nval_pos (by rw [← hu]; exact hsd) hcn
        have e3 : (⟨s.toArray⟩ : ByteArray).size = s.length := Lib.size_mk s
        have hpb1 := HDF.out.2.1
        have hpb2 := HDF.out.2.2.1
        simp only at hpb1 hpb2
        have hsc := scaled s (pw + ((g.length : Int) - (s.length : Int))) hsd (by omega) (by omega) (by omega)
        have hsp2 := scV_pos s (pw + ((g.length : Int) - (s.length : Int))) hspos
        obtain ⟨sb, hsb⟩ : ∃ sb, sb = (⟨s.toArray⟩ : ByteArray) := ⟨_, rfl⟩
        rw [← hsb] at e3 htr hsc
        obtain ⟨⟨M, mok⟩, hM⟩ : ∃ M, M = scV s (pw + ((g.length : Int) - (s.length : Int))) := ⟨_, rfl⟩
        rw [← hM] at hF hsc hsp2
        have HTR := Lib.hid htr
        have HSC := Lib.hid hsc
        have hsl2 : (s.length : Int) ≤ (g.length : Int) := by omega
        have hgl2 : (g.length : Int) ≤ 1000 := by omega
        clear htr hsc hgd hgn hgc hie hsp hth hs hsd hsl hspos hsb hM hgl HG hcn
        cases mok with
        | false =>
          have HF := Lib.hid (show F = (0, 21) by rw [hF]; rfl)
          clear hF hsp2
          go_enter Tryd.func13, Tryd.ntmps13
          go_wp2_with fail
          refine (HDC.out _).mono ?_
          rintro e w1 ⟨rfl, k1⟩
          have Z1 := Lib.hid (HZ.out.below k1 HZ.out.lt)
          have B1 := Lib.hid (HB.out.trans (k1.mono HB.out.size))
          clear k1 HZ HB
          go_wp2_with (first | (go_at_call 39; refine (HTL.out _).mono ?_; rintro e w2 ⟨rfl, rfl⟩) | (go_at_call 40; refine (HTR.out _).mono ?_; rintro e w2 ⟨rfl, rfl⟩))
          refine (HSC.out _).mono ?_
          rintro e w3 ⟨rfl, k3⟩
          have Z3 := Lib.hid (Z1.out.below k3 Z1.out.lt)
          have B3 := Lib.hid (B1.out.trans (k3.mono B1.out.size))
          have N3 := Lib.hid (Row.new w3 26 (cv [0, 0, 0, 0, 0, 0]))
          have hl3 := Z3.out.lt
          have P3 := Lib.hid ((Z3.out.alloc (.cells (cv [0, 0, 0, 0, 0, 0]) 26)).put_other (b' := w3.heap.size) (by omega) (wv M))
          have C3 := Lib.hid (Row.put_below (B3.out.alloc B3.out.size (.cells (cv [0, 0, 0, 0, 0, 0]) 26)) N3.out B3.out.size (wv M))
          clear k3 Z1 B1
          go_wp2_with (first | (refine wpList_store_row rfl 26 _ _ rfl (w3.heap.size) _ rfl rfl 26 _ N3.out ?_ ?_ ?_ ?_; kernel_rfl; (first | (rw [wv_size, wv_size]) | kernel_rfl); (first | exact cv_one _ | kernel_rfl)) | (refine wpList_store_row rfl 26 _ _ rfl (w.heap.size) _ rfl rfl 26 _ P3.out ?_ ?_ ?_ ?_; kernel_rfl; (first | (rw [wv_size, wv_size]) | kernel_rfl); (first | exact cv_one _ | kernel_rfl)))
          refine bodyPost_ret (v := .tuple #[.agg (_), .int .i64 21]) (results_two Tryd.results13 _ _ (w.heap.size) 26 _ _ rfl _ rfl (P3.out.put _) Tryd.underlying26 rfl (by kernel_rfl)) rfl ⟨by rw [HF.out, show wv 0 = cv [0, 0, 0, 0, 0, 0] from wv_zero]; rfl, Row.put_below C3.out P3.out (Nat.le_refl _) _⟩
        | true =>
          have hmp := hsp2 rfl
          simp only at hmp
          obtain ⟨y, y1, y2, y3, y4, y5, y6⟩ := sig_isT ng M hmp.1 hmp.2
          have hsg := fun W => signed ng M y y1 y2 y3 y4 W
          rw [y5] at hsg
          have HSG := Lib.hid hsg
          have HY6 := Lib.hid y6
          obtain ⟨f, hf⟩ : ∃ f, f = fitsT ng M := ⟨_, rfl⟩
          have hF2 : F = (if f = true then (sig ng M, 0) else (0, 21)) := by rw [hF, hf]; rfl
          rw [← hf] at HSG HY6
          have HF2 := Lib.hid hF2
          clear hF hF2 hsp2 hmp y1 y2 y3 y4 y5 y6 hsg hf
          cases f with
          | false =>
            have HF := Lib.hid (show F = (0, 21) by rw [HF2.out]; rfl)
            go_enter Tryd.func13, Tryd.ntmps13
            go_wp2_with fail
            refine (HDC.out _).mono ?_
            rintro e w1 ⟨rfl, k1⟩
            have Z1 := Lib.hid (HZ.out.below k1 HZ.out.lt)
            have B1 := Lib.hid (HB.out.trans (k1.mono HB.out.size))
            clear k1 HZ HB
            go_wp2_with (first | (go_at_call 39; refine (HTL.out _).mono ?_; rintro e w2 ⟨rfl, rfl⟩) | (go_at_call 40; refine (HTR.out _).mono ?_; rintro e w2 ⟨rfl, rfl⟩))
            refine (HSC.out _).mono ?_
            rintro e w3 ⟨rfl, k3⟩
            have Z3 := Lib.hid (Z1.out.below k3 Z1.out.lt)
            have B3 := Lib.hid (B1.out.trans (k3.mono B1.out.size))
            have N3 := Lib.hid (Row.new w3 26 (cv [0, 0, 0, 0, 0, 0]))
            have hl3 := Z3.out.lt
            have M3 := Lib.hid (N3.out.put (wv M))
            have P3 := Lib.hid ((Z3.out.alloc (.cells (cv [0, 0, 0, 0, 0, 0]) 26)).put_other (b' := w3.heap.size) (by omega) (wv M))
            have C3 := Lib.hid (Row.put_below (B3.out.alloc B3.out.size (.cells (cv [0, 0, 0, 0, 0, 0]) 26)) N3.out B3.out.size (wv M))
            clear k3 Z1 B1
            go_wp2_with (first | (refine wpList_store_row rfl 26 _ _ rfl (w3.heap.size) _ rfl rfl 26 _ N3.out ?_ ?_ ?_ ?_; kernel_rfl; (first | (rw [wv_size, wv_size]) | kernel_rfl); (first | exact cv_one _ | kernel_rfl)) | (refine wpList_load_row rfl 26 _ rfl (w3.heap.size) rfl 26 _ (0, 0) _ M3.out Tryd.underlying26 rfl (by kernel_rfl) ?_))
            refine (HSG.out _).mono ?_
            rintro e w4 ⟨rfl, k4⟩
            have Z4 := Lib.hid (P3.out.below k4 P3.out.lt)
            have B4 := Lib.hid (C3.out.trans (k4.mono C3.out.size))
            have N4 := Lib.hid (Row.new w4 26 (cv [0, 0, 0, 0, 0, 0]))
            have hl4 := Z4.out.lt
            have P4 := Lib.hid ((Z4.out.alloc (.cells (cv [0, 0, 0, 0, 0, 0]) 26)).put_other (b' := w4.heap.size) (by omega) (wv y))
            have C4 := Lib.hid (Row.put_below (B4.out.alloc B4.out.size (.cells (cv [0, 0, 0, 0, 0, 0]) 26)) N4.out B4.out.size (wv y))
            clear k4 P3 C3 M3 N3
            go_wp2_with (first | (refine wpList_store_row rfl 26 _ _ rfl (w4.heap.size) _ rfl rfl 26 _ N4.out ?_ ?_ ?_ ?_; kernel_rfl; (first | (rw [wv_size, wv_size]) | kernel_rfl); (first | exact cv_one _ | kernel_rfl)) | (refine wpList_store_row rfl 26 _ _ rfl (w.heap.size) _ rfl rfl 26 _ P4.out ?_ ?_ ?_ ?_; kernel_rfl; (first | (rw [wv_size, wv_size]) | kernel_rfl); (first | exact cv_one _ | kernel_rfl)))
            refine bodyPost_ret (v := .tuple #[.agg (_), .int .i64 21]) (results_two Tryd.results13 _ _ (w.heap.size) 26 _ _ rfl _ rfl (P4.out.put _) Tryd.underlying26 rfl (by kernel_rfl)) rfl ⟨by rw [HF.out, show wv 0 = cv [0, 0, 0, 0, 0, 0] from wv_zero]; rfl, Row.put_below C4.out P4.out (Nat.le_refl _) _⟩
          | true =>
            have HF := Lib.hid (show F = (y, 0) by rw [HF2.out, HY6.out rfl]; rfl)
            go_enter Tryd.func13, Tryd.ntmps13
            go_wp2_with fail
            refine (HDC.out _).mono ?_
            rintro e w1 ⟨rfl, k1⟩
            have Z1 := Lib.hid (HZ.out.below k1 HZ.out.lt)
            have B1 := Lib.hid (HB.out.trans (k1.mono HB.out.size))
            clear k1 HZ HB
            go_wp2_with (first | (go_at_call 39; refine (HTL.out _).mono ?_; rintro e w2 ⟨rfl, rfl⟩) | (go_at_call 40; refine (HTR.out _).mono ?_; rintro e w2 ⟨rfl, rfl⟩))
            refine (HSC.out _).mono ?_
            rintro e w3 ⟨rfl, k3⟩
            have Z3 := Lib.hid (Z1.out.below k3 Z1.out.lt)
            have B3 := Lib.hid (B1.out.trans (k3.mono B1.out.size))
            have N3 := Lib.hid (Row.new w3 26 (cv [0, 0, 0, 0, 0, 0]))
            have hl3 := Z3.out.lt
            have M3 := Lib.hid (N3.out.put (wv M))
            have P3 := Lib.hid ((Z3.out.alloc (.cells (cv [0, 0, 0, 0, 0, 0]) 26)).put_other (b' := w3.heap.size) (by omega) (wv M))
            have C3 := Lib.hid (Row.put_below (B3.out.alloc B3.out.size (.cells (cv [0, 0, 0, 0, 0, 0]) 26)) N3.out B3.out.size (wv M))
            clear k3 Z1 B1
            go_wp2_with (first | (refine wpList_store_row rfl 26 _ _ rfl (w3.heap.size) _ rfl rfl 26 _ N3.out ?_ ?_ ?_ ?_; kernel_rfl; (first | (rw [wv_size, wv_size]) | kernel_rfl); (first | exact cv_one _ | kernel_rfl)) | (refine wpList_load_row rfl 26 _ rfl (w3.heap.size) rfl 26 _ (0, 0) _ M3.out Tryd.underlying26 rfl (by kernel_rfl) ?_))
            refine (HSG.out _).mono ?_
            rintro e w4 ⟨rfl, k4⟩
            have Z4 := Lib.hid (P3.out.below k4 P3.out.lt)
            have B4 := Lib.hid (C3.out.trans (k4.mono C3.out.size))
            have N4 := Lib.hid (Row.new w4 26 (cv [0, 0, 0, 0, 0, 0]))
            have hl4 := Z4.out.lt
            have M4 := Lib.hid (N4.out.put (wv y))
            have P4 := Lib.hid ((Z4.out.alloc (.cells (cv [0, 0, 0, 0, 0, 0]) 26)).put_other (b' := w4.heap.size) (by omega) (wv y))
            have C4 := Lib.hid (Row.put_below (B4.out.alloc B4.out.size (.cells (cv [0, 0, 0, 0, 0, 0]) 26)) N4.out B4.out.size (wv y))
            clear k4 P3 C3 M3 N3
            go_wp2_with (first | (refine wpList_store_row rfl 26 _ _ rfl (w4.heap.size) _ rfl rfl 26 _ N4.out ?_ ?_ ?_ ?_; kernel_rfl; (first | (rw [wv_size, wv_size]) | kernel_rfl); (first | exact cv_one _ | kernel_rfl)) | (refine wpList_load_row rfl 26 _ rfl (w4.heap.size) rfl 26 _ (0, 0) _ M4.out Tryd.underlying26 rfl (by kernel_rfl) ?_) | (refine wpList_store_row rfl 26 _ _ rfl (w.heap.size) _ rfl rfl 26 _ P4.out ?_ ?_ ?_ ?_; kernel_rfl; (first | (rw [wv_size, wv_size]) | kernel_rfl); (first | exact cv_one _ | kernel_rfl)))
            refine bodyPost_ret (v := .tuple #[.agg (_), .int .i64 0]) (results_two Tryd.results13 _ _ (w.heap.size) 26 _ _ rfl _ rfl (P4.out.put _) Tryd.underlying26 rfl (by kernel_rfl)) rfl ⟨by rw [HF.out], Row.put_below C4.out P4.out (Nat.le_refl _) _⟩
end Go.Proofs.YtbbldcbilnkkdaaDoor.Parse
