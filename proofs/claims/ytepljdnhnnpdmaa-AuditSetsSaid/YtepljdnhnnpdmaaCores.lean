/-
  The audit of cores: its parts. No condition.
-/
import Derived.Test.YtepljdnhnnpdmaaPeel
import Derived.Test.YtepljdnhnnpdmaaLabels2
import Derived.Deep.RegionHeld3
import Derived.Laws.CopyRow
import Derived.Deep.OwnRows
set_option linter.unusedVariables false
set_option linter.unusedSimpArgs false
namespace Go.Proofs.Ytepljdnhnnpdmaa.Cores
open Go.RowKit Go.Shelf K Feed Desk Forest Case Peel Labels

/-! ### two halves of one room -/
section
variable {W : World} {g : Nat} {D C : List Nat} {rest : List Value}
theorem getD' {W : World} (h : FRow W g (D ++ C) rest) {s : Nat} (hs : s < D.length) : W.cell? ⟨g, s, none⟩ = some (.int .u64 ((D.getD s 0 : Nat) : Int)) :=
  h.get (by rw [List.getElem?_append_left hs, List.getD_eq_getElem?_getD, List.getElem?_eq_getElem hs]; rfl)
theorem getC' {W : World} {n : Nat} (h : FRow W g (D ++ C) rest) (hn : D.length = n) {s : Nat} (hs : s < C.length) : W.cell? ⟨g, n + s, none⟩ = some (.int .u64 ((C.getD s 0 : Nat) : Int)) :=
  h.get (by rw [List.getElem?_append_right (by omega), show n + s - D.length = s by omega, List.getD_eq_getElem?_getD, List.getElem?_eq_getElem hs]; rfl)
theorem setD' (h : FRow W g (D ++ C) rest) {s z : Nat} (hs : s < D.length) : FRow (W.setCell ⟨g, s, none⟩ (.int .u64 z)) g (D.set s z ++ C) rest := by
  have := h.set (v := s) (u := z) (by simp; omega)
  rwa [List.set_append, if_pos hs] at this
theorem setC' {n : Nat} (h : FRow W g (D ++ C) rest) (hn : D.length = n) {s z : Nat} (hs : s < C.length) : FRow (W.setCell ⟨g, n + s, none⟩ (.int .u64 z)) g (D ++ C.set s z) rest := by
  have := h.set (v := n + s) (u := z) (by simp; omega)
  rwa [List.set_append, if_neg (by omega), show n + s - D.length = s by omega] at this
end
/-! ### clear -/
theorem run_clear {P : Program} (t e : TypeId) (i : TypeInfo) (z : Value) (hzc : z.cells = #[z]) (hz1 : z.oneCell' = true) (ht : P.underlying t = some (.slice e)) (hi : P.info? e = some i) (hz : i.zero = some z) (ty : TypeId)
    (g off n cap : Nat) (T : TypeId) (cs : List Value) (hn : 0 < n) (hle : off + n ≤ cs.length) (W : World) (h : Row W g T cs.toArray) :
    (Builtin.clear_ #[t] ty #[.slice (some ⟨g, off, none⟩) n cap]).run P W = .ok (.tuple #[]) (W.setRow g (cs.take off ++ List.replicate n z ++ cs.drop (off + n)).toArray) := by
  have hzr : (Builtin.zeroCells z.cells n).toList = List.replicate n z := by
    rw [hzc]
    have := toList_madeCells_one z n
    unfold madeCells at this
    unfold Builtin.zeroCells
    simpa using this
  have hs := run_storeCells_at (P := P) g off T (List.replicate n z) 0 cs.toArray W h (by simpa using hle) (by intro v hv; rw [List.eq_of_mem_replicate hv]; exact hz1)
  simp only [Nat.add_zero, List.length_replicate] at hs
  obtain ⟨m, rfl⟩ : ∃ m, n = m + 1 := ⟨n - 1, by omega⟩
  simp [Builtin.clear_, run_underlying ht, zeroValue, typeInfo, hi, hz, hzr, hs]

theorem clear_core {D C : List Nat} {n : Nat} {rest : List Value} (hD : D.length = n) (hC : C.length = n) :
    (fc (D ++ C) ++ rest).take n ++ List.replicate n (Value.int .u64 0) ++ (fc (D ++ C) ++ rest).drop (n + n) = fc (D ++ List.replicate n 0) ++ rest := by
  have l1 : (fc D).length = n := by simp [fc, hD]
  have l2 : (fc C).length = n := by simp [fc, hC]
  have e1 : fc (D ++ C) ++ rest = fc D ++ (fc C ++ rest) := by simp [fc]
  have e2 : fc (D ++ List.replicate n 0) = fc D ++ List.replicate n (Value.int .u64 0) := by simp [fc]
  rw [e1, e2, ← l1, List.take_left, ← List.drop_drop, List.drop_left, l1, ← l2, List.drop_left]
theorem clear_deg {D C : List Nat} {n : Nat} {rest : List Value} (hD : D.length = n) :
    (fc (D ++ C) ++ rest).take 0 ++ List.replicate n (Value.int .u64 0) ++ (fc (D ++ C) ++ rest).drop (0 + n) = fc (List.replicate n 0 ++ C) ++ rest := by
  have l1 : (fc D).length = n := by simp [fc, hD]
  have e1 : fc (D ++ C) ++ rest = fc D ++ (fc C ++ rest) := by simp [fc]
  have e2 : fc (List.replicate n 0 ++ C) = List.replicate n (Value.int .u64 0) ++ fc C := by simp [fc]
  rw [e1, e2, Nat.zero_add, ← l1, List.drop_left, l1]
  simp
theorem turns_put {W : World} {g : Nat} {T : TypeId} {cs : Array Value} (h : Row W g T cs) (cs' : Array Value) : Turns (fun k => k = g) W (W.setRow g cs') :=
  ⟨rfl, Row.put_below (Below.refl 0 W) h (Nat.zero_le _) cs', fun k _ hk => setRow_other W g k cs' (fun e => hk (by first | exact e | exact e.symm))⟩
theorem clearC {D C : List Nat} {n cap g : Nat} {rest : List Value} {W : World} (h : FRow W g (D ++ C) rest) (hD : D.length = n) (hC : C.length = n) (hn : 0 < n) (ty : TypeId) :
    ∃ W', (Builtin.clear_ #[76] ty #[.slice (some ⟨g, n, none⟩) n cap]).run Try.prog W = .ok (.tuple #[]) W' ∧ FRow W' g (D ++ List.replicate n 0) rest ∧ Turns (fun k => k = g) W W' := by
  obtain ⟨i0, hi, hz0, hz1, hz2⟩ := info_parts info64
  have hc := run_clear (P := Try.prog) 76 53 i0 (.int .u64 0) rfl rfl Try.underlying76 hi hz0 ty g n n cap 53 _ hn (by simp [fc]; omega) W h
  rw [clear_core hD hC] at hc
  exact ⟨_, hc, Row.put h _, turns_put h _⟩
theorem clearD {D C : List Nat} {n cap g : Nat} {rest : List Value} {W : World} (h : FRow W g (D ++ C) rest) (hD : D.length = n) (hn : 0 < n) (ty : TypeId) :
    ∃ W', (Builtin.clear_ #[76] ty #[.slice (some ⟨g, 0, none⟩) n cap]).run Try.prog W = .ok (.tuple #[]) W' ∧ FRow W' g (List.replicate n 0 ++ C) rest ∧ Turns (fun k => k = g) W W' := by
  obtain ⟨i0, hi, hz0, hz1, hz2⟩ := info_parts info64
  have hc := run_clear (P := Try.prog) 76 53 i0 (.int .u64 0) rfl rfl Try.underlying76 hi hz0 ty g 0 n cap 53 _ hn (by simp [fc]; omega) W h
  rw [clear_deg hD] at hc
  exact ⟨_, hc, Row.put h _, turns_put h _⟩
/-! ### the closures -/
def SeePost (n g : Nat) (D C : List Nat) (rest : List Value) (w : World) (e : Ending) (w' : World) : Prop := e = .returned (.tuple #[]) ∧ FRow w' g (D ++ C) rest ∧ Turns (fun k => k = g) w w'
set_option maxRecDepth 100000 in
set_option maxHeartbeats 2000000 in
theorem see (n g rcap ccap Bg Bc : Nat) (rest : List Value) (D C : List Nat) (hD : D.length = n) (hC : C.length = n) (hn : n ≤ 5000) (hDb : ∀ u, D.getD u 0 ≤ 140737488351232) (x : E3) (hs : x.s < n) (hd : x.d < n) (hBg : Bg ≠ g) (hBc : Bc ≠ g) (w : World)
    (hR : FRow w g (D ++ C) rest) (hG : Row w Bg 76 #[.slice (some ⟨g, 0, none⟩) n rcap]) (hCr : Row w Bc 76 #[.slice (some ⟨g, n, none⟩) n ccap]) :
    Calls Try.prog 83 #[.agg #[.int .u32 x.s, .int .u32 x.d, .int .u32 x.x], .pointer (some ⟨Bc, 0, none⟩), .pointer (some ⟨Bg, 0, none⟩)] w (SeePost n g (degStep C D x) C rest w) := by
  obtain ⟨s, hs'⟩ : ∃ s : Nat, x.s = s := ⟨x.s.toNat, by have := x.sb; omega⟩
  obtain ⟨d, hd'⟩ : ∃ d : Nat, x.d = d := ⟨x.d.toNat, by have := x.db; omega⟩
  obtain ⟨z, hz'⟩ : ∃ z : Int, x.x = z := ⟨_, rfl⟩
  have hst : degStep C D x = if s ≠ d ∧ C.getD s 0 = 0 ∧ C.getD d 0 = 0 then (D.set s (D.getD s 0 + 1)).set d (D.getD d 0 + 1) else D := by
    unfold degStep
    rw [hs', hd', Int.toNat_natCast, Int.toNat_natCast]
    simp only [ne_eq, Int.natCast_inj]
  rw [hst, hs', hd', hz']
  rw [hs'] at hs
  rw [hd'] at hd
  clear hs' hd' hz' hst x
  have hs : s < n := by omega
  have hd : d < n := by omega
  have c0 := (hG.alloc (.cells #[.int .u32 (s : Int), .int .u32 (d : Int), .int .u32 z] 36)).get (i := 0) rfl
  have c1 := (hCr.alloc (.cells #[.int .u32 (s : Int), .int .u32 (d : Int), .int .u32 z] 36)).get (i := 0) rfl
  have hRA : FRow (w.alloc (.cells #[.int .u32 (s : Int), .int .u32 (d : Int), .int .u32 z] 36)) g (D ++ C) rest := Row.alloc hR _
  have cs := getC' hRA hD (s := s) (by omega)
  have cd := getC' hRA hD (s := d) (by omega)
  have T0 := (Turns.refl (fun k => k = g) w).alloc (.cells #[.int .u32 (s : Int), .int .u32 (d : Int), .int .u32 z] 36)
  have HRA := Lib.hid (And.intro hRA T0)
  have hg := Row.lt hR
  have hgb := hG.lt
  have hcb := hCr.lt
  simp only [List.getElem_toArray, List.getElem_cons_zero] at c0 c1
  have HG := Lib.hid (And.intro hG hCr)
  have HR0 := Lib.hid hR
  have a0 := getD' hR (s := s) (by omega)
  have a1 := getD' hR (s := d) (by omega)
  have f0 := Row.free hR s
  have f1 := Row.free hR d
  have hp := hDb s
  have hq := hDb d
  clear hR hRA T0 hG hCr
  by_cases h1 : s = d
  · rw [if_neg (fun h => h.1 h1)]
    have d1 : ((s : Int) != (d : Int)) = false := by simp [h1]
    clear h1
    go_enter Try.func83, Try.ntmps83
    go_wp2
    go_end0
    exact ⟨rfl, HRA.out.1, HRA.out.2⟩
  have d1 : ((s : Int) != (d : Int)) = true := by simp; omega
  by_cases h2 : C.getD s 0 = 0
  · rw [h2] at cs
    by_cases h3 : C.getD d 0 = 0
    · rw [h3] at cd
      rw [if_pos ⟨h1, h2, h3⟩]
      obtain ⟨p, hpe⟩ : ∃ p, D.getD s 0 = p := ⟨_, rfl⟩
      obtain ⟨q, hqe⟩ : ∃ q, D.getD d 0 = q := ⟨_, rfl⟩
      rw [hpe] at a0 hp
      rw [hqe] at a1 hq
      rw [hpe, hqe]
      have hRZ : FRow (((w.setCell ⟨g, s, none⟩ (.int .u64 ((p : Int) + 1))).setCell ⟨g, d, none⟩ (.int .u64 ((q : Int) + 1))).alloc (.cells #[.int .u32 (s : Int), .int .u32 (d : Int), .int .u32 z] 36)) g ((D.set s (p + 1)).set d (q + 1) ++ C) rest :=
        Row.alloc (setD' (setD' HR0.out (s := s) (z := p + 1) (by omega)) (s := d) (z := q + 1) (by simp; omega)) _
      have hTZ := (((Turns.refl (fun k => k = g) w).setCell (p := ⟨g, s, none⟩) rfl (.int .u64 ((p : Int) + 1))).setCell (p := ⟨g, d, none⟩) rfl (.int .u64 ((q : Int) + 1))).alloc (.cells #[.int .u32 (s : Int), .int .u32 (d : Int), .int .u32 z] 36)
      have HZ := Lib.hid (And.intro hRZ hTZ)
      have hds : d ≠ s := fun e => h1 e.symm
      have e0 : w.cell? ⟨Bg, 0, none⟩ = some (.slice (some ⟨g, 0, none⟩) n rcap) := HG.out.1.get rfl
      clear hRZ hTZ h2 h3 hpe hqe hDb
      go_enter Try.func83, Try.ntmps83
      go_wp2
      go_end0
      exact ⟨rfl, HZ.out.1, HZ.out.2⟩
    · rw [if_neg (fun h => h3 h.2.2)]
      obtain ⟨u, hu⟩ : ∃ u, C.getD d 0 = u := ⟨_, rfl⟩
      rw [hu] at cd h3
      have d3 : ((u : Int) == 0) = false := by simp; omega
      clear h1 h2 h3 hu
      go_enter Try.func83, Try.ntmps83
      go_wp2
      go_end0
      exact ⟨rfl, HRA.out.1, HRA.out.2⟩
  · rw [if_neg (fun h => h2 h.2.1)]
    obtain ⟨u, hu⟩ : ∃ u, C.getD s 0 = u := ⟨_, rfl⟩
    rw [hu] at cs h2
    have d3 : ((u : Int) == 0) = false := by simp; omega
    clear h1 h2 hu
    go_enter Try.func83, Try.ntmps83
    go_wp2
    go_end0
    exact ⟨rfl, HRA.out.1, HRA.out.2⟩
/-- What the last audit of a vertex notes: its word 0 against its core number. -/
def LookPost (D : Nat) (nn kind : Int) (ed sl : Value) (f : Int × Int) (w : World) (e : Ending) (w' : World) : Prop :=
  e = .returned (.tuple #[]) ∧ Row w' D 152 (deskRow nn kind ed sl false f.1 f.2) ∧ Turns (fun k => k = D) w w'
set_option maxRecDepth 100000 in
set_option maxHeartbeats 2000000 in
theorem look (n g ccap Bc Bd Dk : Nat) (rest : List Value) (D C : List Nat) (nn kind : Int) (ed sl : Value) (f : Int × Int) (v : Nat) (x : S8) (hv : v < n) (hn : n ≤ 5000) (hD : D.length = n) (hC : C.length = n) (hCv : 1 ≤ C.getD v 0 ∧ C.getD v 0 ≤ 140737488351232) (hBdD : Bd ≠ Dk) (hBcD : Bc ≠ Dk) (hgD : g ≠ Dk) (w : World) (hR : FRow w g (D ++ C) rest)
    (hCr : Row w Bc 76 #[.slice (some ⟨g, n, none⟩) n ccap]) (hBB : Row w Bd 107 #[.pointer (some ⟨Dk, 0, none⟩)]) (hDk : Row w Dk 152 (deskRow nn kind ed sl false f.1 f.2)) :
    Calls Try.prog 84 #[.int .u32 v, .agg (svArr x), .pointer (some ⟨Bd, 0, none⟩), .pointer (some ⟨Bc, 0, none⟩)] w (LookPost Dk nn kind ed sl (noteD f v 1 (x.at 0 != ((C.getD v 0 : Nat) : Int) - 1)) w) := by
  have c0 := (hBB.alloc (.cells (svArr x) 106)).get (i := 0) rfl
  have c1 := (hCr.alloc (.cells (svArr x) 106)).get (i := 0) rfl
  have c2 := (Row.new w 106 (svArr x)).get (i := 0) rfl
  have cv := getC' (Row.alloc hR (.cells (svArr x) 106)) hD (s := v) (by omega)
  have hg := Row.lt hR
  simp only [List.getElem_toArray, List.getElem_cons_zero, svArr] at c0 c1 c2 cv
  obtain ⟨q, hq⟩ : ∃ q, C.getD v 0 = q := ⟨_, rfl⟩
  rw [hq] at cv hCv ⊢
  have HB := Lib.hid (broken Dk nn kind ed sl f v 1 (x.at 0 != (q : Int) - 1) _ (show Row ((w.alloc (.cells (svArr x) 106)).drew) Dk _ _ from hDk.alloc _))
  have HT := Lib.hid (((Turns.refl (fun k => k = Dk) w).alloc (.cells (svArr x) 106)).drew)
  have q1 := hCv.1
  have q2 := hCv.2
  clear hR hCr hBB hDk hCv hq
  unfold svArr at HB HT ⊢
  go_enter Try.func84, Try.ntmps84
  go_wp2
  refine K.region_tail 10 (by kernel_rfl) (by kernel_rfl) ?_
  simp only [List.take_succ_cons, List.take_zero, List.drop_succ_cons, List.drop_zero]
  iterate 11 (first
    | (refine wpStill_step (fun KK hKK => ?_)
       first
         | (refine K.still_else ?_ (K.Puts.mk' _) ?_
            (first | rfl | (simp [Region.wanted, yielded]; done))
            refine hKK _ ?_)
         | (refine K.still_if ?_ ?_
            (first | rfl | (simp [Region.wanted, yielded]; done))
            apply K.still_val
            · go_simp; (try go_ints); exact K.Gives.mk' _ _
            · go_simp; exact K.Puts.mk' _
            refine hKK _ ?_)
       clear hKK KK)
    | skip)
  refine wpStill_nil ?_
  go_wp2_with fail
  refine HB.out.mono ?_
  rintro e w2 ⟨rfl, hD2, ht2⟩
  have H2 := Lib.hid (And.intro hD2 (HT.out.trans ht2))
  clear hD2 ht2
  go_wp2
  go_end0
  exact ⟨rfl, H2.out.1, H2.out.2⟩
end Go.Proofs.Ytepljdnhnnpdmaa.Cores
