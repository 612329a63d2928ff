/-
  The document's core numbers. No condition.
-/
import Derived.Test.YtepljdnhnnpdmaaCores2
set_option linter.unusedVariables false
set_option linter.unusedSimpArgs false
namespace Go.Proofs.Ytepljdnhnnpdmaa.CoreNum
open Go.RowKit Go.Shelf K Feed Desk Forest Case Peel Labels Cores

theorem infoB : (Try.prog.info? 4).map (fun i => (i.zero, i.size, i.bytes)) = some (some (.bool false), 1, 1) := by kernel_rfl
def bv (C : List Nat) : Array Value := (C.map fun c => Value.bool (c != 0)).toArray
def GRow (W : World) (g : Nat) (C : List Nat) : Prop := Row W g 4 (bv C)
theorem GRow.get {W : World} {g : Nat} {C : List Nat} (h : GRow W g C) {v : Nat} (hv : v < C.length) : W.cell? ⟨g, v, none⟩ = some (.bool (C.getD v 0 != 0)) := Row.get h (by
  simp [bv, List.getD_eq_getElem?_getD, hv])
theorem GRow.set {W : World} {g : Nat} {C : List Nat} (h : GRow W g C) (v k : Nat) : GRow (W.setCell ⟨g, v, none⟩ (.bool true)) g (C.set v (k + 1)) := by
  have := Row.set h v (.bool true)
  unfold GRow
  rw [show bv (C.set v (k + 1)) = (bv C).setIfInBounds v (.bool true) by simp [bv, List.map_set]]
  exact this
def pre1 (C : List Nat) : List Nat := C.map (· - 1)
theorem pre1_set (C : List Nat) (v k : Nat) : pre1 (C.set v (k + 1)) = (pre1 C).set v k := by simp [pre1, List.map_set]
def RelO (es : List E3) (n Bk Bo : Nat) (w : World) (left k : Value) (wr : World) : Prop :=
  ∃ (kk : Nat) (C : List Nat), Reached es n (kk, C) ∧ C.length = n ∧ kk ≤ es.length ∧ k = .int .u64 kk ∧ left = .int .i64 (C.count 0 : Nat) ∧ GRow wr Bo C ∧ FRow wr Bk (pre1 C) [] ∧ Below w.heap.size w wr
def RelD (C : List Nat) (n Bd : Nat) (l : List E3) (W : World) (i : Value) (wr : World) : Prop :=
  ∃ j : Nat, j ≤ l.length ∧ i = .int .i64 j ∧ FRow wr Bd (degs C n (l.take j)) [] ∧ Turns (fun k => k = Bd) W wr
def RelV (D C : List Nat) (kk n Bk Bo : Nat) (W : World) (left took least i : Value) (wr : World) : Prop :=
  ∃ j : Nat, j ≤ n ∧ i = .int .i64 j ∧ left = .int .i64 ((sw D C kk j).count 0 : Nat) ∧ took = .bool (tk D C kk j) ∧ least = .int .u64 (ls' D C kk j : Nat) ∧ GRow wr Bo (sw D C kk j) ∧ FRow wr Bk (pre1 (sw D C kk j)) [] ∧ Turns (fun k => k = Bo ∨ k = Bk) W wr
def NumAt (w : World) (n : Nat) (es : List E3) (e : Ending) (w' : World) : Prop :=
  ∃ (g : Nat) (s : Nat × List Nat), e = .returned (.slice (some ⟨g, 0, none⟩) n n) ∧ w.heap.size ≤ g ∧ Reached es n s ∧ s.2.length = n ∧ s.2.count 0 = 0 ∧ FRow w' g (pre1 s.2) [] ∧ Below w.heap.size w w'
set_option maxRecDepth 100000 in
set_option maxHeartbeats 4000000 in
theorem coreNumbers (n : Nat) (hn : n ≤ 5000) (n1 : 1 ≤ n) (A : Option Addr) (l : List E3) (cap : Nat) (hr : l.length * 12 ≤ 140737488351232) (hgood : ∀ x ∈ l, x.s < n ∧ x.d < n) (w : World) (hA : Lay w w.heap.size A (evs l)) :
    Calls Try.prog 49 #[.int .u32 n, .slice A l.length cap] w (NumAt w n l) := by
  obtain ⟨i0, hi, hz0, hz1, hz2⟩ := info_parts info64
  obtain ⟨i1, hi1, hy0, hy1, hy2⟩ := info_parts infoB
  have hmk := fun W => make_one (P := Try.prog) W .u32 76 53 i0 (.int .u64 0) rfl Try.underlying76 hi hz0 hz1 n (by rw [hz2]; omega) (by omega)
  have hmb := fun W => make_one (P := Try.prog) W .u32 67 4 i1 (.bool false) rfl Try.underlying67 hi1 hy0 hy1 n (by rw [hy2]; omega) (by omega)
  have HL := Lib.hid hA
  have HG := Lib.hid hgood
  have R0 := Lib.hid ((Row.new w 53 (List.replicate n (Value.int .u64 0)).toArray).alloc (.cells (List.replicate n (Value.bool false)).toArray 4))
  have R1 := Lib.hid (Row.at (Row.new (w.alloc (.cells (List.replicate n (Value.int .u64 0)).toArray 53)) 4 (List.replicate n (Value.bool false)).toArray) (b' := w.heap.size + 1) (by simp))
  have B0 := Lib.hid (((Below.refl w.heap.size w).alloc (Nat.le_refl _) (.cells (List.replicate n (Value.int .u64 0)).toArray 53)).alloc (by simp) (.cells (List.replicate n (Value.bool false)).toArray 4))
  clear hA hgood
  go_enter Try.func49, Try.ntmps49
  go_wp2
  go_loopw [7, 8] (fun left k wr => RelO l n w.heap.size (w.heap.size + 1) w left k wr) (fun left k _ => (intOf left).toNat * (l.length + 1) + (l.length - (intOf k).toNat))
  case atStart => exact ⟨0, List.replicate n 0, reached_start l n, by simp, Nat.zero_le _, rfl, by simp, by simpa [GRow, bv] using R1.out, by simpa [FRow, fc, pre1] using R0.out, by simpa using B0.out⟩
  case round =>
    obtain ⟨kk, C, hre, hCl, hkl, rfl, rfl, hG, hK, hb⟩ := hrel
    rename World => w1
    have hcl : C.count 0 ≤ n := by rw [← hCl]; exact List.count_le_length
    have hs1 := Row.lt hG
    obtain ⟨ct, hct⟩ : ∃ ct, C.count 0 = ct := ⟨_, rfl⟩
    rw [hct] at hcl ⊢
    by_cases h0 : ct = 0
    · subst h0
      have HN := Lib.hid (And.intro hre (And.intro hct (And.intro hK hb)))
      clear hre hct hK hb hG
      go_wp2
      go_ret
      exact ⟨_, (kk, C), rfl, Nat.le_refl _, HN.out.1, hCl, HN.out.2.1, HN.out.2.2.1, HN.out.2.2.2⟩
    · have hz : decide ((0 : Int) < (ct : Int)) = true := decide_eq_true (by omega)
      have FD := Lib.hid (show FRow (w1.alloc (.cells (List.replicate n (Value.int .u64 0)).toArray 53)) w1.heap.size (degs C n []) [] from by
        have := Row.new w1 53 (List.replicate n (Value.int .u64 0)).toArray
        simpa [FRow, fc, degs] using this)
      have HN := Lib.hid (And.intro hre (And.intro hct (And.intro (Row.alloc hG (.cells (List.replicate n (Value.int .u64 0)).toArray 53)) (And.intro (Row.alloc hK (.cells (List.replicate n (Value.int .u64 0)).toArray 53)) (hb.alloc hb.size (.cells (List.replicate n (Value.int .u64 0)).toArray 53))))))
      have hsz := hb.size
      clear hre hct hK hb hG
      go_wp2
      go_loopw [10] (fun i w2 => RelD C n w1.heap.size l (w1.alloc (.cells (List.replicate n (Value.int .u64 0)).toArray 53)) i w2) (fun i _ => l.length - (intOf i).toNat)
      case atStart => exact ⟨0, Nat.zero_le _, rfl, FD.out, by simpa using Turns.refl _ _⟩
      case round =>
        obtain ⟨j, hj, rfl, hFD, hTD⟩ := hrel
        rename World => w3
        have hG3 : GRow w3 (w.heap.size + 1) C := hTD.row HN.out.2.2.1 (by omega)
        have hK3 : FRow w3 w.heap.size (pre1 C) [] := hTD.row HN.out.2.2.2.1 (by omega)
        have hb3 := HN.out.2.2.2.2.trans (hTD.below (n := w.heap.size) (by simp; omega) (fun k h => by omega))
        obtain ⟨D, hD⟩ : ∃ D, degs C n (l.take j) = D := ⟨_, rfl⟩
        have hDl : D.length = n := by rw [← hD]; exact degs_length _ _ _
        have hDb : ∀ u, D.getD u 0 ≤ l.length := fun u => by rw [← hD]; have := degs_le C n (l.take j) u; rw [List.length_take] at this; omega
        rw [hD] at hFD
        rcases Nat.lt_or_ge j l.length with h6 | h6
        · obtain ⟨x, hx⟩ : ∃ x, l[j]? = some x := ⟨_, List.getElem?_eq_getElem h6⟩
          have hstep : degs C n (l.take (j + 1)) = degStep C D x := by
            obtain ⟨hj', e⟩ := List.getElem?_eq_some_iff.1 hx
            rw [List.take_succ_eq_append_getElem hj', degs_snoc, e, hD]
          have hxg := HG.out x (List.mem_of_getElem? hx)
          obtain ⟨b, off, rfl, hB, c0, c1, -⟩ := (HL.out.below hb3).edge hx
          obtain ⟨s, hs⟩ : ∃ s : Nat, x.s = s := ⟨x.s.toNat, by have := x.sb; omega⟩
          obtain ⟨d, hd⟩ : ∃ d : Nat, x.d = d := ⟨x.d.toNat, by have := x.db; omega⟩
          have hst : degStep C D x = if s ≠ d ∧ C.getD s 0 = 0 ∧ C.getD d 0 = 0 then (D.set s (D.getD s 0 + 1)).set d (D.getD d 0 + 1) else D := by
            unfold degStep
            rw [hs, hd, Int.toNat_natCast, Int.toNat_natCast]
            simp only [ne_eq, Int.natCast_inj]
          rw [hst] at hstep
          rw [hs, hd] at hxg
          rw [hs] at c0
          rw [hd] at c1
          have hsn : s < n := by omega
          have hdn : d < n := by omega
          have hkb : decide ((j : Int) < (l.length : Int)) = true := decide_eq_true (by omega)
          have gs := hG3.get (v := s) (by omega)
          have gd := hG3.get (v := d) (by omega)
          have a0 : w3.cell? ⟨w1.heap.size, s, none⟩ = some (.int .u64 ((D.getD s 0 : Nat) : Int)) := getD' (C := []) (by simpa using hFD) (s := s) (by omega)
          have a1 : w3.cell? ⟨w1.heap.size, d, none⟩ = some (.int .u64 ((D.getD d 0 : Nat) : Int)) := getD' (C := []) (by simpa using hFD) (s := d) (by omega)
          have f0 := Row.free hFD s
          have f1 := Row.free hFD d
          have hp := hDb s
          have hq := hDb d
          by_cases h1 : s = d
          · rw [if_neg (fun h => h.1 h1)] at hstep
            have d1 : ((s : Int) != (d : Int)) = false := by simp [h1]
            have HM := Lib.hid (And.intro hstep (And.intro hFD hTD))
            clear h1 hstep hFD hTD hD hst hs hd hx hG3 hK3 hb3 gs gd a0 a1
            go_wp2
            go_roundw
            case rel => exact ⟨j + 1, by omega, by go_num, by rw [HM.out.1]; exact HM.out.2.1, HM.out.2.2⟩
            case measure => simp [intOf]; omega
          have d1 : ((s : Int) != (d : Int)) = true := by simp; omega
          by_cases h2 : C.getD s 0 = 0
          · rw [h2] at gs
            have gs' : w3.cell? ⟨w.heap.size + 1, s, none⟩ = some (.bool false) := gs
            by_cases h3 : C.getD d 0 = 0
            · rw [h3] at gd
              have gd' : w3.cell? ⟨w.heap.size + 1, d, none⟩ = some (.bool false) := gd
              rw [if_pos ⟨h1, h2, h3⟩] at hstep
              obtain ⟨p, hpe⟩ : ∃ p, D.getD s 0 = p := ⟨_, rfl⟩
              obtain ⟨q, hqe⟩ : ∃ q, D.getD d 0 = q := ⟨_, rfl⟩
              rw [hpe] at a0 hp
              rw [hqe] at a1 hq
              rw [hpe, hqe] at hstep
              have hRZ : FRow ((w3.setCell ⟨w1.heap.size, s, none⟩ (.int .u64 ((p : Int) + 1))).setCell ⟨w1.heap.size, d, none⟩ (.int .u64 ((q : Int) + 1))) w1.heap.size ((D.set s (p + 1)).set d (q + 1)) [] :=
                (hFD.set (v := s) (u := p + 1) (by omega)).set (v := d) (u := q + 1) (by simp; omega)
              have hTZ := (hTD.setCell (p := ⟨w1.heap.size, s, none⟩) rfl (.int .u64 ((p : Int) + 1))).setCell (p := ⟨w1.heap.size, d, none⟩) rfl (.int .u64 ((q : Int) + 1))
              have HM := Lib.hid (And.intro hstep (And.intro hRZ hTZ))
              have hds : d ≠ s := fun e => h1 e.symm
              clear h2 h3 hpe hqe hstep hRZ hTZ hFD hTD hD hst hs hd hx hG3 hK3 hb3 gs gd hDb
              go_wp2
              go_roundw
              case rel => exact ⟨j + 1, by omega, by go_num, by rw [HM.out.1]; exact HM.out.2.1, HM.out.2.2⟩
              case measure => simp [intOf]; omega
            · rw [if_neg (fun h => h3 h.2.2)] at hstep
              have gd' : w3.cell? ⟨w.heap.size + 1, d, none⟩ = some (.bool true) := by rw [gd, show (C.getD d 0 != 0) = true from bne_iff_ne.2 h3]
              have HM := Lib.hid (And.intro hstep (And.intro hFD hTD))
              clear h1 h2 h3 hstep hFD hTD hD hst hs hd hx hG3 hK3 hb3 gs gd a0 a1
              go_wp2
              go_roundw
              case rel => exact ⟨j + 1, by omega, by go_num, by rw [HM.out.1]; exact HM.out.2.1, HM.out.2.2⟩
              case measure => simp [intOf]; omega
          · rw [if_neg (fun h => h2 h.2.1)] at hstep
            have gs' : w3.cell? ⟨w.heap.size + 1, s, none⟩ = some (.bool true) := by rw [gs, show (C.getD s 0 != 0) = true from bne_iff_ne.2 h2]
            have HM := Lib.hid (And.intro hstep (And.intro hFD hTD))
            clear h1 h2 hstep hFD hTD hD hst hs hd hx hG3 hK3 hb3 gs gd a0 a1
            go_wp2
            go_roundw
            case rel => exact ⟨j + 1, by omega, by go_num, by rw [HM.out.1]; exact HM.out.2.1, HM.out.2.2⟩
            case measure => simp [intOf]; omega
        · obtain rfl : j = l.length := by omega
          have hkb : decide ((l.length : Int) < (l.length : Int)) = false := by simp
          rw [List.take_of_length_le (Nat.le_refl _)] at hD
          have HM := Lib.hid (And.intro hD (And.intro hFD (And.intro hG3 (And.intro hK3 (And.intro hb3 (And.intro hDl hDb))))))
          clear hD hFD hG3 hK3 hb3 hTD
          go_wp2
          go_loopw [7, 13, 14, 15] (fun left took least i w4 => RelV D C kk n w.heap.size (w.heap.size + 1) w3 left took least i w4) (fun _ _ _ i _ => n - (intOf i).toNat)
          case atStart => exact ⟨0, Nat.zero_le _, rfl, by rw [sw, HN.out.2.1], rfl, rfl, HM.out.2.2.1, HM.out.2.2.2.1, Turns.refl _ _⟩
          case round =>
            obtain ⟨i, hi9, rfl, rfl, rfl, rfl, hGi, hKi, hTi⟩ := hrel
            rename World => w4
            have hFDi : FRow w4 w1.heap.size D [] := hTi.row HM.out.2.1 (by intro h; omega)
            rcases Nat.lt_or_ge i n with h6' | h6'
            · have hkb' : decide ((i : Int) < (n : Int)) = true := decide_eq_true (by omega)
              have hgj := hGi.get (v := i) (by rw [sw_length]; omega)
              rw [sw_later (Nat.le_refl i)] at hgj
              have hgf := Row.free hGi i
              obtain ⟨u, hu⟩ : ∃ u, (pre1 (sw D C kk i))[i]? = some u := ⟨_, List.getElem?_eq_getElem (by simp [pre1, sw_length]; omega)⟩
              have hkj := hKi.get hu
              have hkf := Row.free hKi i
              have hdj : w4.cell? ⟨w1.heap.size, i, none⟩ = some (.int .u64 ((D.getD i 0 : Nat) : Int)) := getD' (C := []) (by simpa using hFDi) (s := i) (by rw [HM.out.2.2.2.2.2.1]; omega)
              have hdb := HM.out.2.2.2.2.2.2 i
              by_cases hc : C.getD i 0 = 0
              · rw [hc] at hgj
                have hgj' : w4.cell? ⟨w.heap.size + 1, i, none⟩ = some (.bool false) := hgj
                obtain ⟨dg, hdg⟩ : ∃ dg, D.getD i 0 = dg := ⟨_, rfl⟩
                rw [hdg] at hdj hdb
                obtain ⟨lv, hlv⟩ : ∃ lv, ls' D C kk i = lv := ⟨_, rfl⟩
                rw [hlv]
                by_cases hle : dg ≤ kk
                · have d2 : decide ((dg : Int) ≤ (kk : Int)) = true := decide_eq_true (by omega)
                  have d3 : decide (dg ≤ kk) = true := decide_eq_true hle
                  have hyes : C.getD i 0 = 0 ∧ D.getD i 0 ≤ kk := ⟨hc, by rw [hdg]; exact hle⟩
                  have hsc := sw_count (D := D) (k := kk) hCl h6' hyes
                  obtain ⟨c', hc'⟩ : ∃ c', (sw D C kk (i + 1)).count 0 = c' := ⟨_, rfl⟩
                  rw [hc'] at hsc
                  have hcb : c' ≤ n := by rw [← hc']; have := List.count_le_length (a := 0) (l := sw D C kk (i + 1)); rw [sw_length, hCl] at this; exact this
                  have htk : tk D C kk (i + 1) = true := by rw [tk, decide_eq_true hyes, Bool.or_true]
                  have hsw : sw D C kk (i + 1) = (sw D C kk i).set i (kk + 1) := by rw [sw, if_pos hyes]
                  have hls : ls' D C kk (i + 1) = lv := by rw [ls', if_neg (fun h => h.2 hyes.2), hlv]
                  have hGZ : GRow ((w4.setCell ⟨w.heap.size + 1, i, none⟩ (.bool true)).setCell ⟨w.heap.size, i, none⟩ (.int .u64 kk)) (w.heap.size + 1) (sw D C kk (i + 1)) := by rw [hsw]; exact Row.other (hGi.set i kk) (a := ⟨w.heap.size, i, none⟩) (by show w.heap.size + 1 ≠ w.heap.size; omega) _
                  have hKZ : FRow ((w4.setCell ⟨w.heap.size + 1, i, none⟩ (.bool true)).setCell ⟨w.heap.size, i, none⟩ (.int .u64 kk)) w.heap.size (pre1 (sw D C kk (i + 1))) [] := by rw [hsw, pre1_set]; exact FRow.set (Row.other hKi (a := ⟨w.heap.size + 1, i, none⟩) (by show w.heap.size ≠ w.heap.size + 1; omega) _) (by simp [pre1, sw_length]; omega)
                  have hTZ := (hTi.setCell (p := ⟨w.heap.size + 1, i, none⟩) (.inl rfl) (.bool true)).setCell (p := ⟨w.heap.size, i, none⟩) (.inr rfl) (.int .u64 (kk : Int))
                  rw [← hsc]
                  have HQ := Lib.hid (And.intro hGZ (And.intro hKZ (And.intro hTZ (And.intro hc' (And.intro hls htk)))))
                  clear hGZ hKZ hTZ hc' hls htk hsw hsc hyes hc hdg hlv hle hu hGi hKi hTi hFDi
                  go_wp2
                  go_roundw
                  case rel => exact ⟨i + 1, by omega, by go_num, by rw [HQ.out.2.2.2.1], by rw [HQ.out.2.2.2.2.2], by rw [HQ.out.2.2.2.2.1], HQ.out.1, HQ.out.2.1, HQ.out.2.2.1⟩
                  case measure => simp [intOf]; omega
                · have d2 : decide ((dg : Int) ≤ (kk : Int)) = false := decide_eq_false (by omega)
                  have d3 : decide (dg ≤ kk) = false := decide_eq_false hle
                  have hno : ¬ (C.getD i 0 = 0 ∧ D.getD i 0 ≤ kk) := fun h => hle (hdg ▸ h.2)
                  have hno' : C.getD i 0 = 0 ∧ ¬ D.getD i 0 ≤ kk := ⟨hc, fun h => hle (hdg ▸ h)⟩
                  obtain ⟨m, hm⟩ : ∃ m, min lv dg = m := ⟨_, rfl⟩
                  have q1 := min_if lv dg
                  have q2 := min_if' lv dg
                  rw [hm] at q1 q2
                  have htk : tk D C kk (i + 1) = tk D C kk i := by rw [tk, decide_eq_false hno, Bool.or_false]
                  have hsw : sw D C kk (i + 1) = sw D C kk i := by rw [sw, if_neg hno]
                  have hls : ls' D C kk (i + 1) = m := by rw [ls', if_pos hno', hlv, hdg, hm]
                  have HQ := Lib.hid (And.intro hGi (And.intro hKi (And.intro hTi (And.intro hsw (And.intro hls htk)))))
                  clear hls htk hsw hno hno' hc hdg hlv hm hle hu hGi hKi hTi hFDi
                  go_wp2
                  go_roundw
                  case rel => exact ⟨i + 1, by omega, by go_num, by rw [HQ.out.2.2.2.1], by rw [HQ.out.2.2.2.2.2], by rw [HQ.out.2.2.2.2.1], by rw [HQ.out.2.2.2.1]; exact HQ.out.1, by rw [HQ.out.2.2.2.1]; exact HQ.out.2.1, HQ.out.2.2.1⟩
                  case measure => simp [intOf]; omega
              · have hgj' : w4.cell? ⟨w.heap.size + 1, i, none⟩ = some (.bool true) := by rw [hgj, show (C.getD i 0 != 0) = true from bne_iff_ne.2 hc]
                have hno : ¬ (C.getD i 0 = 0 ∧ D.getD i 0 ≤ kk) := fun h => hc h.1
                have htk : tk D C kk (i + 1) = tk D C kk i := by rw [tk, decide_eq_false hno, Bool.or_false]
                have hsw : sw D C kk (i + 1) = sw D C kk i := by rw [sw, if_neg hno]
                have hls : ls' D C kk (i + 1) = ls' D C kk i := by rw [ls', if_neg (fun h => hc h.1)]
                have HQ := Lib.hid (And.intro hGi (And.intro hKi (And.intro hTi (And.intro hsw (And.intro hls htk)))))
                clear hls htk hsw hno hc hu hGi hKi hTi hFDi hgj
                go_wp2
                go_roundw
                case rel => exact ⟨i + 1, by omega, by go_num, by rw [HQ.out.2.2.2.1], by rw [HQ.out.2.2.2.2.2], by rw [HQ.out.2.2.2.2.1], by rw [HQ.out.2.2.2.1]; exact HQ.out.1, by rw [HQ.out.2.2.2.1]; exact HQ.out.2.1, HQ.out.2.2.1⟩
                case measure => simp [intOf]; omega
            · obtain rfl : i = n := by omega
              have hkb' : decide ((i : Int) < (i : Int)) = false := by simp
              have hre2 := (HN.out.1).step (by rw [HN.out.2.1]; omega)
              have hless := step_less (es := l) (s := (kk, C)) hCl hkl (by omega) (by rw [HN.out.2.1]; omega)
              simp only [Peel.step, HM.out.1, HN.out.2.1] at hre2 hless
              have hsame := @ls_same D C kk i
              have hbz := HM.out.2.2.2.2.1.trans (hTi.below (n := w.heap.size) HM.out.2.2.2.2.1.size (fun k h => by omega))
              obtain ⟨C2, hC2⟩ : ∃ C2, sw D C kk i = C2 := ⟨_, rfl⟩
              have hC2l : C2.length = i := by rw [← hC2, sw_length]; exact hCl
              rw [hC2] at hre2 hless hGi hKi hsame ⊢
              obtain ⟨c2, hc2⟩ : ∃ c2, C2.count 0 = c2 := ⟨_, rfl⟩
              rw [hc2] at hless ⊢
              obtain ⟨lv, hlv⟩ : ∃ lv, ls' D C kk i = lv := ⟨_, rfl⟩
              rw [hlv] at hsame ⊢
              obtain ⟨tb, htb⟩ : ∃ tb, tk D C kk i = tb := ⟨_, rfl⟩
              rw [htb] at hre2 hless hsame ⊢
              cases tb with
              | true =>
                simp only [if_true] at hre2 hless
                have HQ := Lib.hid (And.intro hre2 (And.intro hless (And.intro hGi (And.intro hKi (And.intro hbz hc2)))))
                clear hre2 hless hGi hKi hbz hc2 hlv htb hC2 hTi hFDi hsame
                go_wp2
                go_roundw
                case rel => exact ⟨kk, C2, HQ.out.1, hC2l, HQ.out.2.1.1, rfl, by rw [HQ.out.2.2.2.2.2], HQ.out.2.2.1, HQ.out.2.2.2.1, HQ.out.2.2.2.2.1⟩
                case measure => simpa [intOf] using HQ.out.2.1.2
              | false =>
                simp only [Bool.false_eq_true, if_false] at hre2 hless
                rw [← (hsame rfl).1] at hre2 hless
                have HQ := Lib.hid (And.intro hre2 (And.intro hless (And.intro hGi (And.intro hKi (And.intro hbz hc2)))))
                clear hre2 hless hGi hKi hbz hc2 hlv htb hC2 hTi hFDi hsame
                go_wp2
                go_roundw
                case rel => exact ⟨lv, C2, HQ.out.1, hC2l, HQ.out.2.1.1, rfl, by rw [HQ.out.2.2.2.2.2], HQ.out.2.2.1, HQ.out.2.2.2.1, HQ.out.2.2.2.2.1⟩
                case measure => simpa [intOf] using HQ.out.2.1.2
end Go.Proofs.Ytepljdnhnnpdmaa.CoreNum
