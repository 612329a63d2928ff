/-
  The laws' own list in another order: what comes out is a permutation. No condition.
-/
import Derived.Test.YtbbldcbilnkkdaaDoorLst
import Derived.Deep.DeepCutAuto
import Derived.Deep.CutBlock
import Derived.Deep.CutRange
import Derived.Deep.RegionHeld3
import Derived.Deep.AppendLies
set_option linter.unusedVariables false
set_option linter.unusedSimpArgs false
namespace Go.Proofs.YtbbldcbilnkkdaaDoor.Lst
open Go.ChangeShapes Go.WideShapes Go.ChangeAt Go.RowKit
open Num Tly Ref K

section
variable {P : Program} {w : World} {base : Nat} {t ty e : TypeId} {i : TypeInfo} {z : Value} {size bytes : Nat} {v : Value} {n m c : Nat} {xs news : List Value} {a : Addr}
theorem run_append_two (ht : P.underlying t = some (.slice e)) (hi : P.info? e = some i) (hz : i.zero = some z) (hsize : i.size = size) (hby : i.bytes = bytes) (hzs : z.cells.size = size) (hsz : 0 < size)
    (hown : w.ownsRow base e size v n xs) (hl : news.length = m * size) (hnews : ∀ j u, news[j]? = some u → w.cell? (a.add j) = some u) (h1 : ∀ u ∈ news, u.oneCell' = true) (h63 : n + m ≤ maxLen) (hbytes : (n + m) * bytes ≤ 140737488355328) (hbase : base ≤ w.heap.size) (hm : 0 < m) :
    ∃ v' w', (Builtin.append_ #[t, t] ty #[v, .slice (some a) m c]).run P w = .ok v' w' ∧ w'.ownsRow base e size v' (n + m) (xs ++ news) ∧ w.grownBy w' v.ownBlock ∧ (v'.ownBlock = v.ownBlock ∨ v'.ownBlock = some w.heap.size) := by
  obtain ⟨v', w', hrun, r1, r2, -⟩ := run_append_own (P := P) w base t ty e i z size bytes ht hi hz hsize hby hzs hsz v n xs hown a m c news hl hnews h1 h63 hbytes hbase
  refine ⟨v', w', hrun, r1, r2, ?_⟩
  have hsm : n + m ≤ 9223372036854775807 := by simp only [maxLen] at h63; omega
  obtain ⟨hx, ⟨rfl, rfl⟩ | ⟨g, cap, cur, rfl, hg, hh, hc, hcm, hs, htk⟩⟩ := hown
  · have := run_append_nil (P := P) w t ty e i z ht hi hz a m c news (by rw [hsize]; exact hl) hnews hm (by omega) (by rw [hby]; have hb := hbytes; simp only [Nat.zero_add] at hb; omega)
    rw [hrun] at this
    injection this with e1 e2
    exact .inr (by rw [e1]; rfl)
  · by_cases hroom : n + m ≤ cap
    · have := run_append_room (P := P) w t ty e i ht hi g n cap cur hh a m c news (by rw [hsize]; exact hl) hnews h1 hroom (by rw [hsize, hs, hl, ← Nat.add_mul]; exact Nat.mul_le_mul_right _ hroom)
      rw [hrun] at this
      injection this with e1 e2
      exact .inl (by rw [e1]; rfl)
    · have hol : ∀ j u, xs[j]? = some u → w.cell? ((⟨g, 0, none⟩ : Addr).add j) = some u :=
        World.ownsRow.cells (base := base) (e := e) (size := size) (v := .slice (some ⟨g, 0, none⟩) n cap) (n := n) ⟨hx, .inr ⟨g, cap, cur, rfl, hg, hh, hc, hcm, hs, htk⟩⟩ (g := g) rfl
      have := run_append_grow (P := P) w t ty e i z ht hi hz ⟨g, 0, none⟩ n cap xs (by rw [hsize]; exact hx) hol a m c news (by rw [hsize]; exact hl) hnews (by omega) (by omega) (by rw [hby]; exact growslice_fits (by omega) hbytes)
      rw [hrun] at this
      injection this with e1 e2
      exact .inr (by rw [e1]; rfl)
theorem append_two {ops : Array Oper} {rest : List Oper} {o : Oper} {b : Act} {Q : Exit → Act → World → Prop} (hgd : o.guard = none) (s x : Operand) (t : TypeId)
    (ho : o.op = .call { callee := .builtin .append, args := #[s, x], argTypes := #[t, t] }) (base : Nat) (e : TypeId) (i : TypeInfo) (z : Value) (size bytes : Nat)
    (ht : P.underlying t = some (.slice e)) (hi : P.info? e = some i) (hz : i.zero = some z) (hsize : i.size = size) (hby : i.bytes = bytes) (hzs : z.cells.size = size) (hsz : 0 < size)
    (v : Value) (n : Nat) (xs : List Value) (hs : b.eval s = v) (hown : w.ownsRow base e size v n xs) (ad : Addr) (m c : Nat) (news : List Value) (hx : b.eval x = .slice (some ad) m c)
    (hl : news.length = m * size) (hnews : ∀ j u, news[j]? = some u → w.cell? (ad.add j) = some u) (h1 : ∀ u ∈ news, u.oneCell' = true) (h63 : n + m ≤ maxLen) (hbytes : (n + m) * bytes ≤ 140737488355328) (hbase : base ≤ w.heap.size) (hm : 0 < m)
    (h : ∀ v' w', w'.ownsRow base e size v' (n + m) (xs ++ news) → w.grownBy w' v.ownBlock → (v'.ownBlock = v.ownBlock ∨ v'.ownBlock = some w.heap.size) → wpList P ops Q rest (b.put o.dst v') w') : wpList P ops Q (o :: rest) b w := by
  refine wpList_plain hgd fun K hK => ?_
  obtain ⟨v', w', hrun, r1, r2, r3⟩ := run_append_two (P := P) (ty := o.type) (a := ad) (c := c) ht hi hz hsize hby hzs hsz hown hl hnews h1 h63 hbytes hbase hm
  unfold Oper.wp
  simp [execOp, ho, resolve, invoke, builtin, hs, hx, hrun, Result.andThen]
  exact hK _ _ (h v' w' r1 r2 r3)
/-- An append (of nothing, too) at a step of a region that draws its order. -/
theorem step_append_own {ops : Array Oper} {o : Oper} {b : Act} {K : Act → World → Prop} {Q : Exit → Act → World → Prop} {E : Prop} (hgd : o.guard = none) (s x : Operand) (t : TypeId)
    (ho : o.op = .call { callee := .builtin .append, args := #[s, x], argTypes := #[t, t] }) (base : Nat) (e : TypeId) (i : TypeInfo) (z : Value) (size bytes : Nat)
    (ht : P.underlying t = some (.slice e)) (hi : P.info? e = some i) (hz : i.zero = some z) (hsize : i.size = size) (hby : i.bytes = bytes) (hzs : z.cells.size = size) (hsz : 0 < size)
    (v : Value) (n : Nat) (xs : List Value) (hs : b.eval s = v) (hown : w.ownsRow base e size v n xs) (ad : Addr) (m c : Nat) (news : List Value) (hx : b.eval x = .slice (some ad) m c)
    (hl : news.length = m * size) (hnews : ∀ j u, news[j]? = some u → w.cell? (ad.add j) = some u) (h1 : ∀ u ∈ news, u.oneCell' = true) (h63 : n + m ≤ maxLen) (hbytes : (n + m) * bytes ≤ 140737488355328) (hbase : base ≤ w.heap.size)
    (h : ∀ v' w', w'.ownsRow base e size v' (n + m) (xs ++ news) → w.grownBy w' v.ownBlock → (v' = .slice none 0 0 ↔ v = .slice none 0 0 ∧ m = 0) → K (b.put o.dst v') w') :
    if Region.wanted o (yielded ops b.tmps) = true then Oper.wp P o b w K Q else E := by
  have hw : Region.wanted o (yielded ops b.tmps) = true := by simp [Region.wanted, hgd]
  rw [if_pos hw]
  obtain ⟨v', w', hrun, r1, r2, r3⟩ := run_append_own (P := P) w base t o.type e i z size bytes ht hi hz hsize hby hzs hsz v n xs hown ad m c news hl hnews h1 h63 hbytes hbase
  unfold Oper.wp
  simp [execOp, ho, resolve, invoke, builtin, hs, hx, hrun, Result.andThen]
  exact h v' w' r1 r2 r3
end
theorem add_two' (a : Addr) (i j : Nat) : (a.add i).add j = a.add (i + j) := by
  unfold Addr.add
  by_cases h1 : i = 0
  · subst h1; simp
  · by_cases h2 : j = 0
    · subst h2; simp [h1]
    · simp [h1, h2]
      omega
def lenV : Value → Nat
  | .slice _ n _ => n
  | _ => 0
def RelOrd (B : Nat) (w : World) (us : List Int) (lv fv iv : Value) (wr : World) : Prop :=
  ∃ (k : Nat) (ls fs : List Int) (A : Option Addr) (cp : Nat), iv = .int .i64 k ∧ k = ls.length ∧ (ls ++ fs).Perm us ∧ fv = .slice A fs.length cp ∧ fs.length ≤ cp ∧ Lies wr wr.heap.size A fs.length (u32s fs) ∧
    wr.ownsRow B 25 1 lv ls.length (u32s ls) ∧ (∀ g ad, lv.ownBlock = some g → A = some ad → ad.block ≠ g) ∧ Below B w wr
set_option maxRecDepth 100000 in
set_option maxHeartbeats 4000000 in
theorem order (A : Option Addr) (n cap : Nat) (us : List Int) (hn : n * 4 ≤ 140737488351232) (hcap : n ≤ cap) (hcn : A = none → cap = 0) (w : World) (hA : Lies w w.heap.size A n (u32s us)) (A2 : Option Addr) (n2 cap2 : Nat) (ps : List Int) (hn2 : n2 ≤ maxLen) (hp : Lies w w.heap.size A2 n2 (ps.map (Value.int .i64))) :
    Calls Tryd.prog 28 #[.slice A n cap, .slice A2 n2 cap2] w fun e w' => ∃ v os, e = .returned v ∧ os.Perm us ∧ w'.ownsRow w.heap.size 25 1 v os.length (u32s os) ∧ Below w.heap.size w w' := by
  obtain ⟨i0, hi, hz0, hz1, hz2⟩ := info_parts infoU
  have HL := Lib.hid hA
  have HU := Lib.hid (show us.length = n by simpa [u32s] using hA.1)
  have HP := Lib.hid hp
  clear hA hp
  cases A
  case none =>
    obtain rfl : cap = 0 := hcn rfl
    obtain rfl : n = 0 := by omega
    have hus : us = [] := List.eq_nil_of_length_eq_zero HU.out
    go_enter Tryd.func28, Tryd.ntmps28
    go_wp2
    have HST := Lib.hid (show RelOrd w.heap.size w us (.slice none 0 0) (.slice (some ⟨w.heap.size, 0, none⟩) 0 0) (.int .i64 0) (w.alloc (.cells #[] 25)) from
      ⟨0, [], [], _, _, rfl, rfl, by rw [hus]; exact List.Perm.nil, rfl, Nat.le_refl _, ⟨rfl, fun h => absurd h (by simp)⟩, World.ownsRow_nil _ _ _ _, fun g ad h => by simp [Value.ownBlock] at h, (Below.refl _ w).alloc (Nat.le_refl _) _⟩)
    clear hus
    go_loopw [5, 6, 7] (fun fv lv iv wr => RelOrd w.heap.size w us lv fv iv wr) (fun fv _ _ _ => lenV fv)
    case atStart => exact HST.out
    case round =>
      clear HST
      obtain ⟨k, ls, fs, A, cp, rfl, hk, hperm, rfl, hcp, hlf, hown, hdis, hl⟩ := hrel
      have hplen := hperm.length_eq
      rw [List.length_append, HU.out] at hplen
      have HPM := Lib.hid hperm
      rcases Nat.eq_zero_or_pos fs.length with h6 | h6
      · have hfs : fs = [] := List.eq_nil_of_length_eq_zero h6
        have HPM2 := Lib.hid (show ls.Perm us by have := hperm; rw [hfs, List.append_nil] at this; exact this)
        have HO := Lib.hid hown
        have hkb : decide ((0 : Int) < (fs.length : Int)) = false := by simp [h6]
        have hkb2 : decide (0 < fs.length) = false := by simp [h6]
        clear hperm hown hlf hdis h6 hfs
        go_wp2
        go_ret
        exact ⟨_, ls, rfl, HPM2.out, HO.out, hl⟩
      · exfalso; omega
  case some ad =>
    have hown0 : (w.alloc (.cells #[] 25)).ownsRow w.heap.size 25 1 (.slice (some ⟨w.heap.size, 0, none⟩) 0 0) 0 [] := ⟨rfl, .inr ⟨w.heap.size, 0, #[], rfl, Nat.le_refl _, heap_alloc_new _ _, Nat.le_refl _, by decide, rfl, rfl⟩⟩
    have HL0 := Lib.hid (HL.out.below ((Below.refl _ w).alloc (Nat.le_refl _) (.cells #[] 25)))
    go_enter Tryd.func28, Tryd.ntmps28
    go_wp2_with (at_builtin; refine wpList_append_own _ rfl _ _ 36 rfl w.heap.size 25 i0 (.int .u32 0) 1 4 Tryd.underlying36 hi hz0 hz1 hz2 rfl (by decide) _ _ _ rfl hown0 ad n cap (u32s us) rfl ?c0 ?c1 ?c2 ?c3 ?c4 ?c5 ?_)
    case c0 => simp [u32s, HU.out]
    case c1 =>
      intro j u hu
      obtain ⟨a', e, hb, hc⟩ := HL0.out.2 (by
        have h1 := HU.out
        have h2 : j < (u32s us).length := by
          rcases Nat.lt_or_ge j (u32s us).length with h | h
          · exact h
          · rw [List.getElem?_eq_none h] at hu; cases hu
        simp [u32s] at h2
        omega)
      cases e
      exact hc j u hu
    case c2 => intro u hu; obtain ⟨x, -, rfl⟩ := List.mem_map.1 hu; rfl
    case c3 => unfold maxLen; omega
    case c4 => omega
    case c5 => simp
    intro v1 w1 hown1 hgrow1 _
    have hb1 := ((Below.refl w.heap.size w).alloc (Nat.le_refl _) (.cells #[] 25)).grown hgrow1 (by simp) (fun g hg => (hown0.lt g hg).1)
    have hown1' : w1.ownsRow w.heap.size 25 1 v1 us.length (u32s us) := by rw [HU.out]; exact hown1
    obtain ⟨Af, cf, rfl, hcf, hlf⟩ := lies_of_own hown1'
    have HST := Lib.hid (show RelOrd w.heap.size w us (.slice none 0 0) (.slice Af us.length cf) (.int .i64 0) w1 from
      ⟨0, [], us, _, _, rfl, rfl, List.Perm.refl _, rfl, hcf, hlf, World.ownsRow_nil _ _ _ _, fun g ad h => by simp [Value.ownBlock] at h, hb1⟩)
    clear hown1 hgrow1 hown1' hlf hown0 HL0 hb1
    go_wp2
    go_loopw [5, 6, 7] (fun fv lv iv wr => RelOrd w.heap.size w us lv fv iv wr) (fun fv _ _ _ => lenV fv)
    case atStart => exact HST.out
    case round =>
      clear HST
      obtain ⟨k, ls, fs, A, cp, rfl, hk, hperm, rfl, hcp, hlf, hown, hdis, hl⟩ := hrel
      have hplen := hperm.length_eq
      rw [List.length_append, HU.out] at hplen
      have HPM := Lib.hid hperm
      rcases Nat.eq_zero_or_pos fs.length with h6 | h6
      · have hfs : fs = [] := List.eq_nil_of_length_eq_zero h6
        have HPM2 := Lib.hid (show ls.Perm us by have := hperm; rw [hfs, List.append_nil] at this; exact this)
        have HO := Lib.hid hown
        have hkb : decide ((0 : Int) < (fs.length : Int)) = false := by simp [h6]
        have hkb2 : decide (0 < fs.length) = false := by simp [h6]
        clear hperm hown hlf hdis h6 hfs
        go_wp2
        go_ret
        exact ⟨_, ls, rfl, HPM2.out, HO.out, hl⟩
      · obtain ⟨Al, cl, rfl⟩ := own_shape hown
        obtain ⟨ad, rfl, hadb, hcell⟩ := hlf.2 h6
        have hkb : decide ((0 : Int) < (fs.length : Int)) = true := by simp; omega
        have hkb2 : decide (0 < fs.length) = true := by simp; omega
        have hfl : (fs.length : Int) ≤ 35184372088832 := by omega
        have hkl : (k : Int) ≤ 35184372088832 := by omega
        have HOW := Lib.hid hown
        have HLF := Lib.hid hlf
        have HDI := Lib.hid hdis
        have HCE := Lib.hid hcell
        have hfp := Lib.hid h6
        have HKL := Lib.hid hk
        clear hown hlf hdis hperm hcell h6 hk
        go_upto_if 20 with (fail)
        go_cut [8] from 12 to 47 (fun kv wx => ∃ kk : Nat, kk < fs.length ∧ kv = .int .i64 kk ∧ wx = wr)
        case first =>
          rcases Nat.lt_or_ge k n2 with g | g
          · obtain ⟨a2, rfl, hb2, hc2⟩ := (HP.out.below hl).at_ g
            obtain ⟨p, hp⟩ : ∃ p, ps[k]? = some p := ⟨_, List.getElem?_eq_getElem (by have := HP.out.1; simp at this; omega)⟩
            have hx := hc2 (.int .i64 p) (by simp [hp])
            have f0 : (0 : Int) ≤ (k : Int) := by omega
            have f1 : (k : Int) < (n2 : Int) := by omega
            have f2 : decide ((k : Int) < (n2 : Int)) = true := decide_eq_true f1
            have f3 : decide (k < n2) = true := decide_eq_true g
            obtain ⟨Pv, hPv⟩ : ∃ Pv, Pv = IntKind.u64.wrap p := ⟨_, rfl⟩
            have hP0 : 0 ≤ Pv := by rw [hPv, IntKind.wrap_u64]; omega
            have e0 : IntKind.u64.wrap p = Pv := hPv.symm
            have e1 : IntKind.u64.wrap (fs.length : Int) = (fs.length : Int) := by rw [IntKind.wrap_u64]; omega
            have e2 : Pv.tmod (fs.length : Int) = Pv % (fs.length : Int) := Int.tmod_eq_emod_of_nonneg hP0
            have hm0 := Int.emod_nonneg Pv (b := (fs.length : Int)) (by have := hfp.out; omega)
            have hm1 := Int.emod_lt_of_pos Pv (b := (fs.length : Int)) (by have := hfp.out; omega)
            have z1 : ¬ (fs.length : Int) = 0 := by have := hfp.out; omega
            have z2 : ((fs.length : Int) == 0) = false := by simpa using z1
            have HM := Lib.hid (And.intro hm0 hm1)
            generalize Pv % (fs.length : Int) = q at *
            clear hPv hP0 hc2 hp g
            go_wp2
            go_meet
            exact ⟨q.toNat, by have := HM.out; omega, congrArg (Value.int .i64) (by have := HM.out; omega), rfl⟩
          · have f2 : decide ((k : Int) < (n2 : Int)) = false := by simp; omega
            have f3 : decide (k < n2) = false := by simp; omega
            go_wp2
            go_meet
            exact ⟨0, hfp.out, rfl, rfl⟩
        case rest =>
          obtain ⟨kk, hkk, rfl, hwc⟩ := hcut
          rw [hwc]
          clear hwc
          obtain ⟨u, hu⟩ : ∃ u, fs[kk]? = some u := ⟨_, List.getElem?_eq_getElem hkk⟩
          have hx := HCE.out kk (.int .u32 u) (by simp [u32s, hu])
          have g0 : (0 : Int) ≤ (kk : Int) := by omega
          have g1 : (kk : Int) < (fs.length : Int) := by omega
          have HKK := Lib.hid hkk
          have HUU := Lib.hid hu
          have hown := HOW.out
          have hsz := hl.size
          clear hu hkk
          go_wp2_with (at_builtin; refine append_two rfl _ _ 36 rfl w.heap.size 25 i0 (.int .u32 0) 1 4 Tryd.underlying36 hi hz0 hz1 hz2 rfl (by decide) _ ls.length _ rfl (hown.alloc _) ⟨wr.heap.size, 0, none⟩ 1 1 [.int .u32 u] rfl rfl ?d1 ?d2 ?d3 ?d4 ?d5 ?d6 ?_)
          case d1 =>
            intro j v hj
            match j, hj with
            | 0, hj => simp at hj; subst hj; simp [Addr.add]
          case d2 => intro v hv; simp at hv; subst hv; rfl
          case d3 => unfold maxLen; omega
          case d4 => omega
          case d5 => simp; omega
          case d6 => omega
          intro v2 w2 hown2 hgrow2 hat2
          have hown2' : w2.ownsRow w.heap.size 25 1 v2 (ls ++ [u]).length (u32s (ls ++ [u])) := by
            rw [List.length_append, show u32s (ls ++ [u]) = u32s ls ++ [.int .u32 u] by simp [u32s]]
            exact hown2
          have hl2 : Below w.heap.size w w2 := (hl.alloc hsz _).grown hgrow2 (by simp; omega) (fun g hg => (hown.lt g hg).1)
          have hs2 := hgrow2.size
          simp only [World.size_alloc] at hs2
          have hcell2 : ∀ j x, (u32s fs)[j]? = some x → w2.cell? (ad.add j) = some x := fun j x hj => by
            have h1 := HCE.out j x hj
            have h2 : (wr.alloc (.cells #[.int .u32 u] 25)).cell? (ad.add j) = some x := ((Below.refl _ wr).alloc (Nat.le_refl _) _).cell (by rw [K.block_add]; exact hadb) |>.trans h1
            exact hgrow2.cell h2 (fun e => by
              rw [K.block_add] at e
              exact HDI.out _ _ e.symm rfl rfl)
          obtain ⟨Al2, cl2, rfl⟩ := own_shape hown2'
          have hnl : ∀ g, Value.ownBlock (.slice Al2 (ls ++ [u]).length cl2) = some g → g < w2.heap.size := fun g hg => by
            rcases hat2 with h | h
            · have := h.symm.trans hg
              have := (hown.lt g this).2
              omega
            · have := h.symm.trans hg
              injection this with e
              have := hown2'.lt g hg
              exact this.2
          have HO2 := Lib.hid hown2'
          have HL2 := Lib.hid hl2
          have HC2 := Lib.hid hcell2
          have HN2 := Lib.hid hnl
          clear hown2 hown2' hgrow2 hat2 hl2 hcell2 hnl hown HOW HLF HDI HCE hl hx
          have hkk := HKK.out
          have h1f : (1 : Int) ≤ (fs.length : Int) := by omega
          have g2 : (kk : Int) + 1 ≤ (fs.length : Int) := by omega
          have g3 : (fs.length : Int) - ((kk : Int) + 1) = ((fs.length - (kk + 1) : Nat) : Int) := by omega
          have g4 : (kk : Int) ≤ (cp : Int) := by omega
          have g5 : (fs.length : Int) ≤ (cp : Int) := by omega
          have g6 : (kk : Int) ≤ (fs.length : Int) := by omega
          obtain ⟨k1, hk1⟩ : ∃ k1, k1 = kk + 1 := ⟨_, rfl⟩
          have g7 : (kk : Int) + 1 = (k1 : Int) := by omega
          have g8 : (0 : Int) ≤ (k1 : Int) := by omega
          have g9 : (k1 : Int) ≤ (fs.length : Int) := by omega
          have g10 : (k1 : Int) ≤ (cp : Int) := by omega
          have g11 : IntKind.i64.wrap (k1 : Int) = (k1 : Int) := (IntWalk.i64_left _).trans (IntWalk.wrap64_in _ (by omega))
          have HK1 := Lib.hid hk1
          clear g1 g2 g3 h1f
          have hE : (w2.alloc (.cells #[] 25)).drew.ownsRow w2.heap.size 25 1 (.slice (some ⟨w2.heap.size, 0, none⟩) 0 0) 0 [] := ⟨rfl, .inr ⟨w2.heap.size, 0, #[], rfl, Nat.le_refl _, heap_alloc_new _ _, Nat.le_refl _, by decide, rfl, rfl⟩⟩
          have hb0 : Below w2.heap.size w2 (w2.alloc (.cells #[] 25)).drew := ((Below.refl _ w2).alloc (Nat.le_refl _) _).drew
          have had2 : ad.block < w2.heap.size := by omega
          have hnA : ∀ j x, (u32s (fs.take kk))[j]? = some x → (w2.alloc (.cells #[] 25)).drew.cell? (ad.add j) = some x := fun j x hj => by
            refine (hb0.cell (by rw [K.block_add]; exact had2)).trans (HC2.out j x ?_)
            simp only [u32s, List.getElem?_map, List.getElem?_take] at hj ⊢
            split at hj
            · exact hj
            · cases hj
          have hnB : ∀ W, Below w2.heap.size w2 W → ∀ j x, (u32s (fs.drop k1))[j]? = some x → W.cell? ((ad.add k1).add j) = some x := fun W hW j x hj => by
            refine (hW.cell (by rw [K.block_add, K.block_add]; exact had2)).trans ?_
            rw [add_two']
            refine HC2.out _ x ?_
            simpa only [u32s, List.getElem?_map, List.getElem?_drop] using hj
          have hone : ∀ l : List Int, ∀ v ∈ u32s l, v.oneCell' = true := fun l v hv => by obtain ⟨x, -, rfl⟩ := List.mem_map.1 hv; rfl
          have hlA : (u32s (fs.take kk)).length = kk * 1 := by simp [u32s]; omega
          have hlB : (u32s (fs.drop k1)).length = (fs.length - k1) * 1 := by simp [u32s]
          have hm1 : 0 + kk ≤ maxLen := by unfold maxLen; omega
          have hm2 : (0 + kk) * 4 ≤ 140737488355328 := by omega
          have hm3 : 0 + kk + (fs.length - k1) ≤ maxLen := by unfold maxLen; omega
          have hm4 : (0 + kk + (fs.length - k1)) * 4 ≤ 140737488355328 := by omega
          have hnC : cp = k1 → ∀ (W : World) j x, (u32s (fs.drop k1))[j]? = some x → W.cell? (ad.add j) = some x := fun hc W j x hj => by
            rw [List.drop_of_length_le (by omega)] at hj
            simp [u32s] at hj
          clear hk1
          by_cases hcpk : cp = k1
          case' pos =>
            replace hnC := hnC hcpk
            have g12 : (kk : Int) ≤ (k1 : Int) := by have := HK1.out; omega
            go_wp2_with fail
            go_region_held3 (fun _ => True) (trivial) (first
              | (refine step_append_own rfl _ _ 36 rfl w2.heap.size 25 i0 (.int .u32 0) 1 4 Tryd.underlying36 hi hz0 hz1 hz2 rfl (by decide) _ 0 [] rfl hE ad kk _ (u32s (fs.take kk)) rfl hlA hnA (hone _) hm1 hm2 hb0.size ?_
                 intro v4 w4 hown4 hgrow4 hiff4
                 have hb4 := hb0.grown hgrow4 hb0.size (fun g hg => (hE.lt g hg).1))
              | (refine step_append_own rfl _ _ 36 rfl w2.heap.size 25 i0 (.int .u32 0) 1 4 Tryd.underlying36 hi hz0 hz1 hz2 rfl (by decide) _ _ _ rfl hown4 ad (fs.length - k1) _ (u32s (fs.drop k1)) rfl hlB (hnC _) (hone _) hm3 hm4 hb4.size ?_
                 intro v5 w5 hown5 hgrow5 hiff5
                 have hb5 := hb4.grown hgrow5 hb4.size (fun g hg => (hown4.lt g hg).1)))
          case' neg =>
            clear hnC
            go_wp2_with fail
            go_region_held3 (fun _ => True) (trivial) (first
              | (refine step_append_own rfl _ _ 36 rfl w2.heap.size 25 i0 (.int .u32 0) 1 4 Tryd.underlying36 hi hz0 hz1 hz2 rfl (by decide) _ 0 [] rfl hE ad kk _ (u32s (fs.take kk)) rfl hlA hnA (hone _) hm1 hm2 hb0.size ?_
                 intro v4 w4 hown4 hgrow4 hiff4
                 have hb4 := hb0.grown hgrow4 hb0.size (fun g hg => (hE.lt g hg).1))
              | (refine step_append_own rfl _ _ 36 rfl w2.heap.size 25 i0 (.int .u32 0) 1 4 Tryd.underlying36 hi hz0 hz1 hz2 rfl (by decide) _ _ _ rfl hown4 (ad.add k1) (fs.length - k1) _ (u32s (fs.drop k1)) rfl hlB (hnB _ hb4) (hone _) hm3 hm4 hb4.size ?_
                 intro v5 w5 hown5 hgrow5 hiff5
                 have hb5 := hb4.grown hgrow5 hb4.size (fun g hg => (hown4.lt g hg).1)))
          all_goals
            have hFL := Lib.hid (show (fs.take kk ++ fs.drop k1).length = 0 + kk + (fs.length - k1) by simp; have := HK1.out; omega)
            have hown6 : w5.ownsRow w2.heap.size 25 1 v5 (fs.take kk ++ fs.drop k1).length (u32s (fs.take kk ++ fs.drop k1)) := by
              rw [hFL.out, show u32s (fs.take kk ++ fs.drop k1) = [] ++ u32s (fs.take kk) ++ u32s (fs.drop k1) by simp [u32s]]
              exact hown5
            obtain ⟨A5, c5, hv5, hc5, hl5⟩ := lies_of_own hown6
            have hA5 : ∀ g ad', Value.ownBlock (.slice Al2 (ls ++ [u]).length cl2) = some g → A5 = some ad' → ad'.block ≠ g := fun g ad' hg ha => by
              have h1 := HN2.out g hg
              rw [hv5, ha] at hown6
              have h2 := (hown6.lt ad'.block rfl).1
              omega
            have hsplit : fs = fs.take kk ++ u :: fs.drop k1 := by
              obtain ⟨h', e⟩ := List.getElem?_eq_some_iff.1 HUU.out
              rw [HK1.out, ← e, ← List.drop_eq_getElem_cons h', List.take_append_drop]
            have hpm : ((ls ++ [u]) ++ (fs.take kk ++ fs.drop k1)).Perm us := by
              refine List.Perm.trans ?_ HPM.out
              rw [List.append_assoc]
              refine List.Perm.append_left ls ?_
              have h3 : (fs.take kk ++ u :: fs.drop k1).Perm (u :: (fs.take kk ++ fs.drop k1)) := List.perm_middle
              rw [← hsplit] at h3
              exact h3.symm
            have HEND := Lib.hid (show RelOrd w.heap.size w us (.slice Al2 (ls ++ [u]).length cl2) v5 (.int .i64 ((k : Int) + 1)) w5 from
              ⟨k + 1, ls ++ [u], fs.take kk ++ fs.drop k1, A5, c5, by go_num, by simp [HKL.out], hpm, hv5, hc5, hl5, own_below HO2.out hb5, hA5, HL2.out.trans (hb5.mono HL2.out.size)⟩)
            have HLV := Lib.hid (show lenV v5 < fs.length by rw [hv5]; show (fs.take kk ++ fs.drop k1).length < fs.length; rw [hFL.out]; have := HK1.out; have := HKK.out; omega)
            clear hsplit hpm hA5 hl5 hc5 hv5 hown6 hown5 hb5 hFL
            go_wp2
            go_roundw
            case rel =>
              have h := HEND.out
              rw [show (ls ++ [u]).length = ls.length + 1 by simp] at h
              exact h
            case measure => simp [lenV]; exact HLV.out
end Go.Proofs.YtbbldcbilnkkdaaDoor.Lst
