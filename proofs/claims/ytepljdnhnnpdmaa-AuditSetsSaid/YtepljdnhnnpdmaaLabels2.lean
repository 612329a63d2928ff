/-
  The audit of components, whole: what the program answers. No condition.
-/
import Derived.Test.YtepljdnhnnpdmaaLabels
set_option linter.unusedVariables false
set_option linter.unusedSimpArgs false
namespace Go.Proofs.Ytepljdnhnnpdmaa.Labels
open Go.RowKit Go.Shelf K Feed Desk Forest

theorem ret_ver {tmps : Array Value} {W : World} {V : Nat} {r : Bool} {v q c : Int} (h8 : tmps[8]? = some (.pointer (some ⟨V, 0, none⟩))) (h9 : tmps[9]? = some (.int .i64 c)) (hR : Row W V 79 #[.bool r, .int .u32 v, .int .i64 q]) :
    (results Try.f39 tmps).run Try.prog W = .ok (.tuple #[.agg #[.bool r, .int .u32 v, .int .i64 q], .int .i64 c]) W := by
  have c0 := hR.get (i := 0) rfl
  have c1 := hR.get (i := 1) rfl
  have c2 := hR.get (i := 2) rfl
  simp only [List.getElem_toArray, List.getElem_cons_zero, List.getElem_cons_succ] at c0 c1 c2
  simp [results, Try.f39, Try.results39, go_sem, h8, h9, c0, c1, c2]
set_option maxRecDepth 100000 in
theorem labels_no (n : Int) (hn : 0 ≤ n ∧ n ≤ 4294967295) (b0 b1 : Nat) (A RA : Option Addr) (len cap R rcap : Nat) (h : sitCode (madeCode n) len n R n ≠ 0) (w : World) :
    Calls Try.prog 39 #[.int .u32 n, feedVal b0 b1, .slice A len cap, .slice RA R rcap] w fun e w' =>
      e = .returned (.tuple #[.agg #[.bool false, .int .u32 0, .int .i64 0], .int .i64 (sitCode (madeCode n) len n R n)]) ∧ Below w.heap.size w w' := by
  have hw := Lib.hid (fun W => wcc n W)
  have hm := Lib.hid (fun p e W => made p e W)
  have hs := Lib.hid (fun W => sit_no n 0 b0 b1 A len cap R n _ hn h W)
  have R8 := Lib.hid (Row.new w 79 #[.bool false, .int .u32 0, .int .i64 0])
  have B8 := Lib.hid ((Below.refl w.heap.size w).alloc (Nat.le_refl _) (.cells #[.bool false, .int .u32 0, .int .i64 0] 79))
  obtain ⟨c, hc⟩ : ∃ c, sitCode (madeCode n) len n R n = c := ⟨_, rfl⟩
  have hne : (c != 0) = true := by rw [← hc]; simpa using h
  rw [hc] at hs ⊢
  clear h hc
  unfold feedVal at hs ⊢
  go_enter Try.func39, Try.ntmps39
  go_wp2_with fail
  refine (hw.out _).mono ?_
  rintro e w1 ⟨p, rfl, hb⟩
  have R1 := Lib.hid (hb.mono (by simp) |> fun (k : Below (w.heap.size + 1) _ _) => R8.out.below k (by omega))
  have B1 := Lib.hid (B8.out.trans (hb.mono (by simp)))
  clear hb
  go_wp2_with fail
  refine (hm.out _ _ _).mono ?_
  rintro e w2 ⟨rfl, rfl⟩
  go_wp2_with fail
  refine (hs.out _).mono ?_
  rintro e w2 ⟨rfl, rfl⟩
  have hv0 := R1.out.get (i := 0) rfl
  have hv1 := R1.out.get (i := 1) rfl
  have hv2 := R1.out.get (i := 2) rfl
  have hf0 := R1.out.free 0
  have hf1 := R1.out.free 1
  have hf2 := R1.out.free 2
  have hlt := R1.out.lt
  simp only [List.getElem_toArray, List.getElem_cons_zero, List.getElem_cons_succ] at hv0 hv1 hv2
  go_wp2
  have RZ := (((R1.out.set 0 (.bool false)).set 1 (.int .u32 0)).set 2 (.int .i64 0)).alloc (.cells #[.pointer none] 107)
  have BZ := (((B1.out.setCell (p := ⟨w.heap.size, 0, none⟩) (Nat.le_refl _) (.bool false)).setCell (p := ⟨w.heap.size, 1, none⟩) (Nat.le_refl _) (.int .u32 0)).setCell (p := ⟨w.heap.size, 2, none⟩) (Nat.le_refl _) (.int .i64 0)).alloc (by simp; omega) (.cells #[.pointer none] 107)
  refine bodyPost_ret (ret_ver rfl rfl RZ) rfl ⟨rfl, BZ⟩

/-! ### what is found -/
def notes (P : Nat → Nat) (l : List S8) : Nat → Int × Int
  | 0 => (0, 0)
  | i + 1 => noteD (notes P l i) i 1 ((l.getD i zero8).at 0 != ((P i : Nat) : Int))
def LabelsPost (n g : Nat) (rest : List Value) (l : List S8) (es : List E3) (beh : Int) (w : World) (e : Ending) (w' : World) : Prop :=
  ∃ pre, pre <+: es ∧ (oerr n 0 beh es = 0 → pre = es) ∧ e = .returned (.tuple #[verdictOf (oerr n 0 beh es) (notes (foldP pre) l n), .int .i64 (oerr n 0 beh es)]) ∧
    (∃ F, FRow w' g F rest ∧ F.length = n) ∧ Turns (fun k => k = g) w w'
theorem verdict_agg (e : Int) (f : Int × Int) : ∃ r v q, verdictOf e f = .agg #[.bool r, .int .u32 v, .int .i64 q] := by
  unfold verdictOf
  split
  · exact ⟨_, _, _, rfl⟩
  · split <;> exact ⟨_, _, _, rfl⟩
theorem _root_.Go.Proofs.Ytepljdnhnnpdmaa.Desk.Turns.then_below {S : Nat → Prop} {A B C : World} (h : Turns S A B) {m : Nat} (hb : Below m B C) (hm : A.heap.size ≤ m) : Turns S A C :=
  ⟨hb.1.trans h.os, h.b.trans (hb.mono (Nat.zero_le _)), fun k hk hs => (hb.block k (by omega)).trans (h.block k hk hs)⟩
theorem _root_.Go.Proofs.Ytepljdnhnnpdmaa.Desk.Turns.fresh {S S' : Nat → Prop} {A B : World} (h : Turns S' A B) (hs : ∀ k, S' k → S k ∨ A.heap.size ≤ k) : Turns S A B :=
  ⟨h.os, h.b, fun k hk hn => h.block k hk fun g => (hs k g).elim hn (by omega)⟩
theorem sized_of {n R : Nat} {len : Int} (h : sitCode (madeCode n) len n R n = 0) : 1 ≤ n ∧ n ≤ 2147483647 ∧ len = n ∧ n ≤ R := by
  unfold sitCode madeCode at h
  by_cases h1 : (n : Int) < 1 ∨ 2147483647 < (n : Int)
  · rw [if_pos h1] at h; simp at h
  rw [if_neg h1] at h
  by_cases h2 : len ≠ n
  · simp [h2] at h
  by_cases h3 : (R : Int) < n
  · exfalso; simp only [ne_eq, not_true_eq_false, if_false] at h; rw [if_neg h2, if_pos h3] at h; cases h
  omega

set_option maxRecDepth 100000 in
set_option maxHeartbeats 2000000 in
theorem labels_yes (n R rcap g lo hi n₀ b0 b1 cap : Nat) (A : Option Addr) (l : List S8) (es : List E3) (beh : Int) (rest cs : List Value) (hr : es.length * 12 ≤ 140737488351232) (hRc : R ≤ rcap)
    (h : sitCode (madeCode n) l.length n R n = 0) (w : World) (hA : Lay w n₀ A (svs l)) (hn₀ : n₀ ≤ g) (hF : FeedFrom lo w hi b0 b1 es beh) (hg : g < lo) (hlo : lo ≤ hi) (hhi : hi ≤ w.heap.size)
    (hR : Row w g 53 (cs ++ rest).toArray) (hcs : cs.length = n) :
    Calls Try.prog 39 #[.int .u32 n, feedVal b0 b1, .slice A l.length cap, .slice (some ⟨g, 0, none⟩) R rcap] w (LabelsPost n g rest l es beh w) := by
  obtain ⟨n1, n2, n3, n4⟩ := sized_of h
  have hw := Lib.hid (fun W => wcc n W)
  have hm := Lib.hid (fun p e W => made p e W)
  have hs := Lib.hid (fun W => sit_yes n 0 b0 b1 A l.length cap R n _ (by omega) h W)
  have R8 := Lib.hid (Row.new w 79 #[.bool false, .int .u32 0, .int .i64 0])
  have T8 := Lib.hid ((Turns.refl (fun _ => False) w).alloc (.cells #[.bool false, .int .u32 0, .int .i64 0] 79))
  have HA := Lib.hid hA
  have HF := Lib.hid hF
  have HR := Lib.hid hR
  have lg := hR.lt
  clear hA hF hR
  obtain ⟨V, hV⟩ : ∃ V, w.heap.size = V := ⟨_, rfl⟩
  go_enter Try.func39, Try.ntmps39
  go_wp2_with fail
  refine (hw.out _).mono ?_
  rintro e w1 ⟨p, rfl, hb⟩
  have T1 := Lib.hid (T8.out.trans (Turns.of_below hb))
  have R1 := Lib.hid (R8.out.below hb (by simp))
  have S1 := hb.size
  simp only [World.size_alloc] at S1
  clear hb
  go_wp2_with fail
  refine (hm.out _ _ _).mono ?_
  rintro e w2 ⟨rfl, rfl⟩
  go_wp2_with fail
  refine (hs.out _).mono ?_
  rintro e w2 ⟨rfl, hw2⟩
  have RD := Row.new w1 152 (deskRow n 0 (feedVal b0 b1) (.slice A l.length cap) false 0 0)
  have T2 := T1.out.alloc (.cells (deskRow n 0 (feedVal b0 b1) (.slice A l.length cap) false 0 0) 152)
  have RV := R1.out.alloc (.cells (deskRow n 0 (feedVal b0 b1) (.slice A l.length cap) false 0 0) 152)
  rw [← hw2] at RD T2 RV
  have S2 : w2.heap.size = w1.heap.size + 1 := by rw [hw2]; simp
  obtain ⟨D, hD⟩ : ∃ D, w1.heap.size = D := ⟨_, rfl⟩
  rw [hD] at RD ⊢
  rw [hD] at S2
  have T2 := Lib.hid T2
  have RV := Lib.hid RV
  have RD := Lib.hid RD
  clear hw2 T1 R1
  go_wp2_with fail
  have hgD : g ≠ D := by omega
  have hgV : g ≠ V := by omega
  have RB2 : Row (w2.alloc (.cells #[.pointer (some ⟨D, 0, none⟩)] 107)) (D + 1) 107 #[.pointer (some ⟨D, 0, none⟩)] := S2 ▸ Row.new w2 107 #[.pointer (some ⟨D, 0, none⟩)]
  refine (newForest n g rcap rest cs (by omega) hcs _ (Row.alloc (T2.out.row HR.out (fun h => h)) _)).mono ?_
  rintro e w3 ⟨rfl, hFR, ht⟩
  have S3 := ht.size
  simp only [World.size_alloc, S2] at S3
  obtain ⟨Bf, hBf⟩ : ∃ Bf, w3.heap.size = Bf := ⟨_, rfl⟩
  have RV3 := Lib.hid (ht.row (RV.out.alloc _) (fun e => hgV (e.symm.trans hV)))
  have RD3 := Lib.hid (ht.row (RD.out.alloc _) (fun e => hgD e.symm))
  have RB3 := Lib.hid (ht.row RB2 (by omega))
  have T3 := Lib.hid (((T2.out.alloc (.cells #[.pointer (some ⟨D, 0, none⟩)] 107)).more (S' := fun k => k = g) (fun k h => h.elim)).trans ht)
  have HFR := Lib.hid hFR
  have cB := (RB3.out.alloc (.cells #[.slice (some ⟨g, 0, none⟩) n rcap] 114)).get (i := 0) rfl
  simp only [List.getElem_toArray, List.getElem_cons_zero] at cB
  clear T2 RV RD RB2 ht hFR
  go_wp2_with fail
  have RV4 := RV3.out.alloc (.cells #[.slice (some ⟨g, 0, none⟩) n rcap] 114)
  have RD4 := RD3.out.alloc (.cells #[.slice (some ⟨g, 0, none⟩) n rcap] 114)
  have RB4 := RB3.out.alloc (.cells #[.slice (some ⟨g, 0, none⟩) n rcap] 114)
  have RF4 : FRow _ g _ _ := Row.alloc HFR.out (.cells #[.slice (some ⟨g, 0, none⟩) n rcap] 114)
  have RX4 : Row _ Bf _ _ := hBf ▸ Row.new w3 114 #[.slice (some ⟨g, 0, none⟩) n rcap]
  have T4 := T3.out.alloc (.cells #[.slice (some ⟨g, 0, none⟩) n rcap] 114)
  have S4 : (w3.alloc (.cells #[.slice (some ⟨g, 0, none⟩) n rcap] 114)).heap.size = Bf + 1 := by simp [hBf]
  obtain ⟨W4, hW4⟩ : ∃ W4, w3.alloc (.cells #[.slice (some ⟨g, 0, none⟩) n rcap] 114) = W4 := ⟨_, rfl⟩
  rw [hW4] at RV4 RD4 RB4 RF4 RX4 T4 S4 cB ⊢
  clear hW4 RV3 RD3 RB3 HFR T3
  have hF4 : FeedFrom lo W4 hi b0 b1 es beh := fun W' h => HF.out W' fun k h1 h2 => (h k h1 h2).trans (T4.block k (by omega) (by show k ≠ g; omega))
  refine (over' n 0 (by decide) D b0 b1 lo hi es beh hr 71 #[.pointer (some ⟨Bf, 0, none⟩)] (fun args W => rfl)
    (fun pre W => Turns (fun k => k = g) W4 W ∧ ∃ F, FRow W g F rest ∧ Rep F (foldP pre) n) W4 hF4 (by omega) (desk2 RD4)
    (fun pre W hJ => ⟨desk0 (hJ.1.row RD4 (fun e => hgD e.symm)), desk1 (hJ.1.row RD4 (fun e => hgD e.symm))⟩)
    (fun pre W W' hJ hb => ⟨hJ.1.then_below hb (Nat.le_refl _), hJ.2.imp fun F hF => ⟨Row.below hF.1 hb (by omega), hF.2⟩⟩)
    (fun pre x W hJ hx hsz => ?see) ⟨Turns.refl _ _, _, RF4, rep_range n⟩).mono ?_
  case see =>
    obtain ⟨hT, F, hFR, hP⟩ := hJ
    have hxx : x.s < n ∧ x.d < n := by
      unfold wrong at hx
      by_cases h1 : (n : Int) ≤ x.s ∨ (n : Int) ≤ x.d
      · rw [if_pos h1] at hx; cases hx
      · omega
    refine (seen (foldP pre) n g rcap Bf rest F x hxx.1 hxx.2 (by omega) (by omega) W hFR hP (hT.row RX4 (by omega))).mono ?_
    rintro e W' ⟨he, hF', hT'⟩
    exact ⟨he, ⟨hT.trans hT', by rw [foldP_snoc]; exact hF'⟩, Stay.of_turns hT' (by omega) (fun k h1 h2 h3 => by omega), hT'.above (fun k h => by omega)⟩
  rintro e w5 ⟨rfl, pre, hpre, hall, T45, F, hFR, hP⟩
  have RV5 := T45.row RV4 (by omega)
  have RD5 := T45.row RD4 (by omega)
  have RB5 := T45.row RB4 (by omega)
  have RX5 := T45.row RX4 (by omega)
  have T5 := T4.trans T45
  have S5 := T45.size
  obtain ⟨E, hE⟩ : ∃ E, oerr n 0 beh es = E := ⟨_, rfl⟩
  rw [hE] at hall ⊢
  have cB := RB5.get (i := 0) rfl
  simp only [List.getElem_toArray, List.getElem_cons_zero] at cB
  have HD := Lib.hid (And.intro RV5 (And.intro RD5 (And.intro RB5 (And.intro RX5 (And.intro T5 (And.intro hFR hP))))))
  clear RV4 RD4 RB4 RF4 RX4 T4 T45 RV5 RD5 RB5 RX5 T5 hFR
  go_wp2_with fail
  obtain ⟨RV5, RD5, RB5, RX5, T5, hFR, hP⟩ := HD.out
  have hlen : l.length = n := by omega
  refine (each D n₀ A l cap (by omega) 74 #[.pointer (some ⟨D + 1, 0, none⟩), .pointer (some ⟨Bf, 0, none⟩)] (fun args W => rfl)
    (fun i W => Turns (fun k => k = g ∨ k = D) w5 W ∧ (∃ F, FRow W g F rest ∧ Rep F (foldP pre) n) ∧ Row W D 152 (deskRow n 0 (feedVal b0 b1) (.slice A l.length cap) false (notes (foldP pre) l i).1 (notes (foldP pre) l i).2)) w5
    (desk3 RD5) (HA.out.below (T5.below (by omega) (fun k h => by omega))) (by omega)
    (fun i W W' hJ hb => ?kept) (fun i x W hJ hx hsz => ?see2) ⟨Turns.refl _ _, ⟨F, hFR, hP⟩, RD5⟩).mono ?_
  case kept =>
    obtain ⟨hT, ⟨F, hFR, hP⟩, hRD⟩ := hJ
    have := hT.size
    exact ⟨hT.trans (Turns.of_below hb), ⟨F, Row.below hFR hb (by omega), hP⟩, hRD.below hb (by omega)⟩
  case see2 =>
    obtain ⟨hT, ⟨F, hFR, hP⟩, hRD⟩ := hJ
    have hil := (List.getElem?_eq_some_iff.1 hx).1
    refine (look (foldP pre) n g rcap Bf (D + 1) D rest F n 0 (feedVal b0 b1) (.slice A l.length cap) (notes (foldP pre) l i) i x (by omega) (by omega) (by omega) (by omega) (by omega) (by omega) (by omega) W hFR hP
      (hT.row RX5 (by omega)) (hT.row RB5 (by omega)) hRD).mono ?_
    rintro e W' ⟨he, hF', hRD', hT'⟩
    refine ⟨he, ⟨hT.trans hT', hF', ?_⟩, hT'.below (by omega) (fun k h => by omega)⟩
    rw [notes, show l.getD i zero8 = x by rw [List.getD_eq_getElem?_getD, hx]; rfl]
    exact hRD'
  rintro e w6 ⟨rfl, ⟨T56, hFR6, RD6⟩, hb6⟩
  have RV6 := T56.row RV5 (by omega)
  have RB6 := T56.row RB5 (by omega)
  have S6 := T56.size
  have T6 := Lib.hid ((T5.more (S' := fun k => k = g ∨ k = D) (fun k h => .inl h)).trans T56)
  rw [hlen] at RD6
  have cB := RB6.get (i := 0) rfl
  simp only [List.getElem_toArray, List.getElem_cons_zero] at cB
  have hv0 := RV6.get (i := 0) rfl
  have HD := Lib.hid (And.intro RV6 (And.intro RD6 hFR6))
  clear RV5 RD5 RB5 RX5 T5 hFR T56 hFR6 RD6 hb6 RV6 RB6 hP hv0
  obtain ⟨r, v, q, hag⟩ := verdict_agg E (notes (foldP pre) l n)
  go_wp2_with fail
  obtain ⟨RV6, RD6, hFR6⟩ := HD.out
  refine (verdict D n 0 _ _ (notes (foldP pre) l n) E w6 RD6).mono ?_
  rintro e w7 ⟨rfl, hb7⟩
  rw [hag]
  have RV7 := RV6.below hb7 RV6.lt
  have S7 := hb7.size
  have T7 := Lib.hid (T6.out.trans (Turns.of_below hb7))
  obtain ⟨F7, hF7, hP7⟩ := hFR6
  have hF7 : FRow w7 g F7 rest := Row.below hF7 hb7 (Row.lt hF7)
  have hv0 := RV7.get (i := 0) rfl
  have hv1 := RV7.get (i := 1) rfl
  have hv2 := RV7.get (i := 2) rfl
  have hf0 := RV7.free 0
  have hf1 := RV7.free 1
  have hf2 := RV7.free 2
  simp only [List.getElem_toArray, List.getElem_cons_zero, List.getElem_cons_succ, hV] at hv0 hv1 hv2 hf0 hf1 hf2
  have RZ := ((RV7.set 0 (.bool r)).set 1 (.int .u32 v)).set 2 (.int .i64 q)
  have TZ := ((T7.out.more (S' := fun k => k = g ∨ k = D ∨ k = V) (fun k h => h.elim .inl (fun h => .inr (.inl h)))).setCell (p := ⟨w.heap.size, 0, none⟩) (.inr (.inr hV)) (.bool r) |>.setCell (p := ⟨w.heap.size, 1, none⟩) (.inr (.inr hV)) (.int .u32 v)).setCell (p := ⟨w.heap.size, 2, none⟩) (.inr (.inr hV)) (.int .i64 q)
  have FZ : FRow _ g F7 rest := ((Row.other hF7 (a := ⟨w.heap.size, 0, none⟩) (by show g ≠ w.heap.size; omega) (.bool r)).other (a := ⟨w.heap.size, 1, none⟩) (by show g ≠ w.heap.size; omega) (.int .u32 v)).other (a := ⟨w.heap.size, 2, none⟩) (by show g ≠ w.heap.size; omega) (.int .i64 q)
  rw [hV] at RZ TZ FZ
  have HZ := Lib.hid (And.intro RZ (And.intro TZ FZ))
  clear RZ TZ FZ HD RV6 RD6 RV7 hF7 hb7
  go_wp2
  obtain ⟨RZ, TZ, FZ⟩ := HZ.out
  refine bodyPost_ret (ret_ver rfl rfl RZ) rfl ?_
  refine ⟨pre, hpre, by rw [hE]; exact hall, by rw [hE, hag], ⟨F7, FZ, hP7.1⟩, TZ.fresh (fun k h => ?_)⟩
  rcases h with h | h | h
  · exact .inl h
  · exact .inr (by omega)
  · exact .inr (by omega)
end Go.Proofs.Ytepljdnhnnpdmaa.Labels
