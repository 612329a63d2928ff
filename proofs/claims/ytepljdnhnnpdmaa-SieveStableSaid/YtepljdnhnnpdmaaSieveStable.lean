/-
  SieveStable: a shuffle loses nothing, and keeps the order within a part. No condition.
-/
import Derived.Test.YtepljdnhnnpdmaaRows
import Derived.Test.YtepljdnhnnpdmaaStab
import Derived.Deep.DeepCutAuto
import Derived.Deep.RegionHeld3
import Derived.Deep.AppendLies
import Derived.ChangeOld
import Derived.SizedLaws
set_option linter.unusedVariables false
set_option linter.unusedSimpArgs false
namespace Go.Proofs.Ytepljdnhnnpdmaa.sieveStable
open Go.RowKit Go.Shelf Go.ChangeShapes Go.WideShapes Go.ChangeAt K Desk Cut Radix Shuf Stab

theorem ucs_one (l : List U3) : ∀ u ∈ ucs l, u.oneCell' = true := by
  intro u hu
  obtain ⟨x, -, hx⟩ := List.mem_flatMap.1 hu
  simp only [uc, List.mem_cons, List.not_mem_nil, or_false] at hx
  rcases hx with rfl | rfl | rfl <;> rfl
theorem made_u (m : Nat) : (madeCells #[.int .u32 0, .int .u64 0, .int .u64 0] (m * 3)).toList = ucs (List.replicate m u0) := by
  have key : ∀ n, (madeCells #[.int .u32 0, .int .u64 0, .int .u64 0] n).toList = (List.range n).map fun i => (#[Value.int .u32 0, .int .u64 0, .int .u64 0])[i % 3]! := fun n => by simp [madeCells]
  rw [key]
  induction m with
  | zero => rfl
  | succ m ih =>
    rw [show (m + 1) * 3 = m * 3 + 1 + 1 + 1 by omega, List.range_succ, List.range_succ, List.range_succ, List.map_append, List.map_append, List.map_append, ih, List.replicate_succ', ucs_append, List.append_assoc, List.append_assoc]
    congr 1
    simp only [List.map_cons, List.map_nil, show m * 3 % 3 = 0 by omega, show (m * 3 + 1) % 3 = 1 by omega, show (m * 3 + 1 + 1) % 3 = 2 by omega]
    rfl
theorem make_upd (m : Nat) (hm : m * 24 ≤ 140737488351232) : ∃ C : Array Value, C.toList = ucs (List.replicate m u0) ∧ ∀ W : World,
    (Instr.makeSlice 57 (.int .i64 m) (.int .i64 m)).run Try.prog W = .ok (.slice (some ⟨W.heap.size, 0, none⟩) m m) (W.alloc (.cells C 55)) := by
  obtain ⟨i0, hi, hz0, hz1, hz2⟩ := info_parts infoU
  refine ⟨_, made_u m, fun W => ?_⟩
  have h := run_make (P := Try.prog) W 57 55 i0 _ Try.underlying57 hi hz0 .i64 .i64 m m (by omega) (Int.le_refl _) (by rw [hz2]; omega) (by omega)
  simp only [Int.toNat_natCast, hz1] at h
  exact h
theorem ord_full {n' q r : Int} {us : List U3} {k : Nat} (h : ∀ x ∈ us, okP n' q r k x) : (ordL (psL n' q r us) k).length = us.length := by
  have h1 : bucket (pn n' q r) k us = (ordL (psL n' q r us) k).map fun i => us.getD i u0 := bucket_order n' q r us k
  have h2 : (bucket (pn n' q r) k us).length = us.length := bucket_len fun x hx => by
    obtain ⟨a, b⟩ := h x hx
    unfold pn; omega
  rw [← h2, h1, List.length_map]
theorem sts_get (ps : List Int) {p k : Nat} (h : p ≤ k) : (stsL ps k)[p]? = some (ordL ps p).length := by
  unfold stsL; rw [List.getElem?_map, List.getElem?_range (by omega), (ordL_len ps p).1]; rfl
theorem ordL_mono (ps : List Int) {p k : Nat} (h : p ≤ k) : (ordL ps p).length ≤ (ordL ps k).length := by
  obtain ⟨r, hr⟩ := ordL_pre ps h
  rw [hr, List.length_append]; omega
def psA (v : Int) (hv : 1 ≤ v) (pk : Nat) (us : List U3) : List Int := psL v (v / pk) (v % pk) (al v hv us us.length)
structure InR (v : Int) (hv : 1 ≤ v) (pk k1 : Nat) (us : List U3) (gw rc : Nat) (fr st : Value) (X : World) : Prop where
  rc : Row X rc 39 #[.int .u32 v, .int .u32 pk, .int .u32 (v / pk), .int .u32 (v % pk)]
  was : ∃ cw, Pre X gw 55 cw (ucs (al v hv us us.length) ++ [])
  val : ∃ (gc gi ci cap : Nat) (Ai : Option Addr) (rest : List Value), fr = .slice Ai us.length ci ∧ (0 < us.length → Ai = some ⟨gi, 0, none⟩) ∧ Pre X gi 55 cap (ucs ((ordL (psA v hv pk us) pk).map fun i => (al v hv us us.length).getD i u0) ++ rest) ∧
    st = .slice (some ⟨gc, 0, none⟩) k1 k1 ∧ Row X gc 3 (ic (stsL (psA v hv pk us) pk))
def CutR (v : Int) (hv : 1 ≤ v) (pk k1 : Nat) (us : List U3) (gw rc : Nat) (w : World) (fr st e : Value) (X : World) : Prop :=
  e = .int .i64 0 ∧ Below w.heap.size w X ∧ InR v hv pk k1 us gw rc fr st X
theorem cutR_of {v : Int} {hv : 1 ≤ v} {pk k1 fk : Nat} {us : List U3} {gw rc ga gb capa capb cw ca : Nat} {Aa : Option Addr} {w W w4 : World} {e : Ending} (hcut : Cut v pk (v / pk) (v % pk)) (hk1 : k1 = pk + 1)
    (hs : ShufAt v (v / pk) (v % pk) pk fk (al v hv us us.length) (.slice Aa us.length ca) (.slice (some ⟨gb, 0, none⟩) us.length us.length) ga gb capa capb [] [] W e w4)
    (hB : Below w.heap.size w W) (hrc : Row W rc 39 #[.int .u32 v, .int .u32 pk, .int .u32 (v / pk), .int .u32 (v % pk)]) (h1 : rc ≠ ga) (h2 : rc ≠ gb) (hw : Pre W gw 55 cw (ucs (al v hv us us.length) ++ [])) (h3 : gw ≠ gb) (h4 : gw ≠ ga ∨ us.length = 0 ∧ ga = gw)
    (h5 : w.heap.size ≤ ga) (h6 : w.heap.size ≤ gb) (hAa : al v hv us us.length ≠ [] → Aa = some ⟨ga, 0, none⟩) :
    ∃ fr st, e = .returned (.tuple #[fr, st, .int .i64 0]) ∧ CutR v hv pk k1 us gw rc w fr st (.int .i64 0) w4 ∧ Row w4 rc 39 #[.int .u32 v, .int .u32 pk, .int .u32 (v / pk), .int .u32 (v % pk)] := by
  rcases hs with ⟨⟨x, hx, hbad⟩, -, -⟩ | ⟨s, hS⟩
  · exact absurd (al_ok hcut x hx) hbad
  · obtain ⟨gc, fr, to_, T, rfl, hgc, hrc4, hTl, hpar⟩ := hS.gc
    have hT := hS.turns
    have hrc' := hT.row hrc (fun h => by rcases h with h | h; exact h1 h; exact h2 h)
    have hb4 := hB.trans (hT.below (n := w.heap.size) hB.size (fun k h => by rcases h with rfl | rfl; exact h5; exact h6))
    rw [starts_order] at hrc4
    rw [bucket_order] at hpar
    refine ⟨_, _, rfl, ⟨rfl, hb4, hrc', ?_, ?_⟩, hrc'⟩
    · rcases h4 with h4 | ⟨h0, rfl⟩
      · exact ⟨cw, hw.same (hT.block _ (Pre.lt hw) (fun h => by rcases h with h | h; exact h4 h; exact h3 h))⟩
      · have hl0 : al v hv us us.length = [] := List.eq_nil_of_length_eq_zero (by rw [al_length]; exact h0)
        have hor : ∀ (l : List Nat), l.length = 0 → l = [] := fun l => List.eq_nil_of_length_eq_zero
        rw [hl0]
        rcases hpar with ⟨-, -, p, -⟩ | ⟨-, -, -, p⟩
        · have := hor (ordL (psL v (v / pk) (v % pk) (al v hv us us.length)) pk) (by rw [ord_full (al_ok hcut), al_length]; exact h0)
          rw [this] at p
          exact ⟨_, p⟩
        · have hT0 : T = [] := List.eq_nil_of_length_eq_zero (by rw [hTl, al_length]; exact h0)
          rw [hT0] at p
          exact ⟨_, p⟩
    · rcases hpar with ⟨-, rfl, p, -⟩ | ⟨-, rfl, p, -⟩
      · exact ⟨gc, ga, ca, capa, Aa, [], rfl, fun h => hAa (fun e => by rw [List.eq_nil_iff_length_eq_zero, al_length] at e; omega), p, by rw [hk1], hrc4⟩
      · exact ⟨gc, gb, us.length, capb, _, [], rfl, fun _ => rfl, p, by rw [hk1], hrc4⟩
def RelP (ps : List Int) (pk m : Nat) (W : World) (p : Value) (wr : World) : Prop :=
  ∃ i : Nat, i ≤ pk ∧ p = .int .i64 i ∧ Row wr W.heap.size 4 (Stab.seen ((ordL ps pk).take (ordL ps i).length) m).toArray ∧ Below W.heap.size W wr
def RelI (ps : List Int) (pk m a b : Nat) (W : World) (p : Value) (wr : World) : Prop :=
  ∃ i : Nat, a ≤ i ∧ i ≤ b ∧ p = .int .i64 i ∧ Row wr W.heap.size 4 (Stab.seen ((ordL ps pk).take i) m).toArray ∧ Below W.heap.size W wr
theorem infoB : (Try.prog.info? 4).map (fun i => (i.zero, i.size, i.bytes)) = some (some (.bool false), 1, 1) := by kernel_rfl
def RelA (v : Int) (hv : 1 ≤ v) (us : List U3) (W : World) (s i : Value) (wr : World) : Prop :=
  ∃ j : Nat, j ≤ us.length ∧ i = .int .i64 j ∧ wr.ownsRow W.heap.size 55 3 s j (ucs (al v hv us j)) ∧ Below W.heap.size W wr
set_option maxRecDepth 100000 in
set_option maxHeartbeats 40000000 in
theorem walk (A : Option Addr) (us : List U3) (ucap : Nat) (hr : us.length * 24 ≤ 140737488351232) (n k fan : Int) (hn : 0 ≤ n ∧ n ≤ 4294967295) (hk : -9223372036854775808 ≤ k ∧ k ≤ 9223372036854775807) (hfan : -9223372036854775808 ≤ fan ∧ fan ≤ 9223372036854775807)
    (w : World) (hA : Lay w w.heap.size A (ucs us)) :
    Calls Try.prog 9 #[.slice A us.length ucap, .int .u32 n, .int .i64 k, .int .i64 fan] w fun e w' => e = .returned (.bool true) ∧ Below w.heap.size w w' := by
  obtain ⟨v1, hv1⟩ : ∃ v1, (if n < 1 then 1 else n) = v1 := ⟨_, rfl⟩
  obtain ⟨v, hv⟩ : ∃ v, (if 1048576 < v1 then 1048576 else v1) = v := ⟨_, rfl⟩
  obtain ⟨p1, hp1⟩ : ∃ p1, (if k < 1 then 1 else k) = p1 := ⟨_, rfl⟩
  obtain ⟨p2, hp2⟩ : ∃ p2, (if 512 < v then 512 else v) = p2 := ⟨_, rfl⟩
  obtain ⟨p, hp⟩ : ∃ p, (if p2 < p1 then p2 else p1) = p := ⟨_, rfl⟩
  have b1 : 1 ≤ v1 ∧ v1 ≤ 4294967295 := by rw [← hv1]; split <;> omega
  have bv : 1 ≤ v ∧ v ≤ 1048576 := by rw [← hv]; split <;> omega
  have bp1 : 1 ≤ p1 ∧ p1 ≤ 9223372036854775807 := by rw [← hp1]; split <;> omega
  have bp2 : 1 ≤ p2 ∧ p2 ≤ 512 ∧ p2 ≤ v := by rw [← hp2]; split <;> omega
  have bp : 1 ≤ p ∧ p ≤ 512 ∧ p ≤ v := by rw [← hp]; split <;> omega
  obtain ⟨f1, hf1⟩ : ∃ f1, (if fan < 2 then 2 else fan) = f1 := ⟨_, rfl⟩
  obtain ⟨fn, hfn⟩ : ∃ fn, (if 256 < f1 then 256 else f1) = fn := ⟨_, rfl⟩
  have bf1 : 2 ≤ f1 := by rw [← hf1]; split <;> omega
  have bfn : 2 ≤ fn ∧ fn ≤ 256 := by rw [← hfn]; split <;> omega
  obtain ⟨pk, rfl⟩ := Int.eq_ofNat_of_zero_le (show 0 ≤ p by omega)
  obtain ⟨fk, rfl⟩ := Int.eq_ofNat_of_zero_le (show 0 ≤ fn by omega)
  obtain ⟨i0, hi, hz0, hz1, hz2⟩ := info_parts infoU
  have hcut := Cut.of bv.1 (by omega) bp.1 bp.2.2 bp.2.1
  have hsp := Lib.hid (fun W => splitYes v pk bv.1 (by omega) bp.1 bp.2.2 bp.2.1 W)
  have HCUT := Lib.hid hcut
  have HA := Lib.hid hA
  clear hcut hA
  go_enter Try.func9, Try.ntmps9
  go_wp2_with fail
  refine (hsp.out _).mono ?_
  rintro e w1 ⟨rfl, hb1⟩
  have B1 := Lib.hid hb1
  have s1 := hb1.size
  clear hb1
  go_wp2_with fail
  refine (num 0 _).mono ?_
  rintro e w2 ⟨rfl, hb2⟩
  have RC0 := Row.new w1 39 #[.int .u32 v, .int .u32 pk, .int .u32 (v / pk), .int .u32 (v % pk)]
  have RC2 := Lib.hid (RC0.below hb2 (by simp))
  have B2 := Lib.hid ((B1.out.alloc s1 (.cells #[.int .u32 v, .int .u32 pk, .int .u32 (v / pk), .int .u32 (v % pk)] 39)).trans (hb2.mono (by simp; omega)))
  have s2 := B2.out.size
  have hrc := RC2.out.lt
  clear hb2 RC0 hv1 hv hp1 hp2 hp b1 bp1 bp2
  go_wp2
  go_loopw [13, 14] (fun s i wr => RelA v bv.1 us w2 s i wr) (fun _ i _ => us.length - (intOf i).toNat)
  case atStart => exact ⟨0, Nat.zero_le _, rfl, World.ownsRow_nil _ _ _ _, Below.refl _ _⟩
  case round =>
    obtain ⟨j, hj, rfl, hown, hl⟩ := hrel
    rename World => wr
    rcases Nat.lt_or_ge j us.length with h6 | h6
    · have hkb : decide ((j : Int) < (us.length : Int)) = true := decide_eq_true (by omega)
      obtain ⟨x, hx⟩ : ∃ x, us[j]? = some x := ⟨_, List.getElem?_eq_getElem h6⟩
      obtain ⟨b, off, rfl, hbB, c0, -, c2⟩ := lay_upd ((HA.out.below B2.out).below (hl.mono s2)) hx
      have hgd : us.getD j u0 = x := by rw [List.getD_eq_getElem?_getD, hx]; rfl
      have hmk : ucs (al v bv.1 us (j + 1)) = ucs (al v bv.1 us j) ++ [.int .u32 (x.t % v), .int .u64 (j : Int), .int .u64 x.b] := by
        rw [al_succ, ucs_append, hgd]
        show _ ++ [_, _, _] = _
        congr 3
        show Value.int .u64 ((j : Int) % 18446744073709551616) = _
        congr 1
        omega
      have HMK := Lib.hid hmk
      have HO := Lib.hid (And.intro hown hl)
      have hj0 : (0 : Int) ≤ (j : Int) := by omega
      have hjl : (j : Int) < (us.length : Int) := by omega
      have hj64 : IntKind.u64.wrap (j : Int) = (j : Int) := by rw [IntKind.wrap_u64]; omega
      have hbw : b < wr.heap.size := by have := hl.size; omega
      have hbw2 : b < w2.heap.size := by omega
      obtain ⟨xt, hxt⟩ : ∃ xt, x.t = xt := ⟨_, rfl⟩
      obtain ⟨xb, hxb⟩ : ∃ xb, x.b = xb := ⟨_, rfl⟩
      have hxt2 : xt.tmod v = xt % v := by rw [Int.tmod_eq_emod_of_nonneg]; rw [← hxt]; exact x.tb.1
      rw [hxt] at c0 HMK
      rw [hxb] at c2 HMK
      have hv0 : v ≠ 0 := by omega
      clear hx hgd hmk hown hl hxt hxb
      go_wp2
      have hKB := Lib.hid (fun X (h : Below wr.heap.size wr X) => (show X.cell? ⟨b, off + j * 3, none⟩ = some (.int .u32 xt) ∧ X.cell? ⟨b, off + j * 3 + 2, none⟩ = some (.int .u64 xb) from
        ⟨(h.cell (p := ⟨b, off + j * 3, none⟩) hbw).trans c0, (h.cell (p := ⟨b, off + j * 3 + 2, none⟩) hbw).trans c2⟩))
      have hS0 := hKB.out wr (Below.refl _ _)
      have hsw := HO.out.2.size
      have hown10 := HO.out.1
      clear c0 c2
      go_region_held3 (fun X => X.cell? ⟨b, off + j * 3, none⟩ = some (.int .u32 xt) ∧ X.cell? ⟨b, off + j * 3 + 2, none⟩ = some (.int .u64 xb))
        (first
          | with_reducible exact hS12
          | with_reducible exact hKB.out _ (Below.refl _ wr).drew
          | with_reducible exact hKB.out _ (((Below.refl _ wr).alloc (Nat.le_refl _) _).drew)
          | exact hS0)
        (first
          | (refine step_append_lies _ rfl _ _ 57 rfl w2.heap.size 55 i0 (.agg #[.int .u32 0, .int .u64 0, .int .u64 0]) 3 24 Try.underlying57 hi hz0 hz1 hz2 rfl (by decide) _ j _ rfl (hown10.alloc _) ⟨wr.heap.size, 0, none⟩ 1 1 [.int .u32 (xt % v), .int .u64 (j : Int), .int .u64 xb] rfl rfl (World.news_of_block (cs := #[.int .u32 (xt % v), .int .u64 (j : Int), .int .u64 xb]) (heap_alloc_new wr _)) (by intro u hu; simp only [List.mem_cons, List.not_mem_nil, or_false] at hu; rcases hu with rfl | rfl | rfl <;> rfl) (by decide) (by unfold maxLen; omega) (by omega) (by first | omega | (simp only [World.size_alloc]; omega) | (simp; omega)) _ rfl ?_
             intro g cap w12 hown12 hgrow12 hat12 hlt12
             have hS12 := And.intro (hgrow12.cell ((hKB.out _ (((Below.refl _ wr).alloc (Nat.le_refl _) (.cells #[.int .u32 (xt % v), .int .u64 (j : Int), .int .u64 xb] 55)).drew)).1) (fun e => by have := (hown10.lt _ e.symm).1; simp only at this; omega)) (hgrow12.cell ((hKB.out _ (((Below.refl _ wr).alloc (Nat.le_refl _) (.cells #[.int .u32 (xt % v), .int .u64 (j : Int), .int .u64 xb] 55)).drew)).2) (fun e => by have := (hown10.lt _ e.symm).1; simp only at this; omega))))
      have hl10 := ((HO.out.2.alloc HO.out.2.size (.cells #[.int .u32 (xt % v), .int .u64 (j : Int), .int .u64 xb] 55)).drew).grown hgrow12 (by have := HO.out.2.size; simp; omega) (fun g' hg' => (hown10.lt g' hg').1)
      have H11 := Lib.hid (And.intro hown12 hl10)
      clear hown12 hgrow12 hat12 hlt12 hS12 hown10 hl10 hS0
      go_wp2
      go_roundw
      case rel => exact ⟨j + 1, by omega, by go_num, by rw [HMK.out]; exact H11.out.1, H11.out.2⟩
      case measure => simp [intOf]; omega
    · obtain rfl : j = us.length := by omega
      have hkb : decide ((us.length : Int) < (us.length : Int)) = false := by simp
      obtain ⟨Aa, ca, rfl, hca, hAa, hlay⟩ := lay_of_own hown
      have HO := Lib.hid (And.intro hown (And.intro hl (And.intro hlay (And.intro hAa hca))))
      have hswr := hl.size
      have hown0 : (wr.alloc (.cells #[] 55)).ownsRow wr.heap.size 55 3 (.slice (some ⟨wr.heap.size, 0, none⟩) 0 0) 0 [] := ⟨rfl, .inr ⟨wr.heap.size, 0, #[], rfl, Nat.le_refl _, heap_alloc_new _ _, Nat.le_refl _, by decide, rfl, rfl⟩⟩
      clear hown hl hlay hAa hca
      go_wp2_with (at_builtin; refine append_lay rfl _ _ 57 rfl wr.heap.size 55 i0 (.agg #[.int .u32 0, .int .u64 0, .int .u64 0]) 3 24 Try.underlying57 hi hz0 hz1 hz2 rfl (by decide) _ 0 [] rfl hown0 Aa us.length ca (ucs (al v bv.1 us us.length)) rfl ?c1 ?c2 wr.heap.size ?c3 ?c4 ?c5 ?c6 ?c7 ?_)
      case c1 => exact HO.out.2.2.2.1
      case c2 => rw [ucs_length, al_length]
      case c3 => exact HO.out.2.2.1.below ((Below.refl _ wr).alloc (Nat.le_refl _) _)
      case c4 => exact ucs_one _
      case c5 => unfold maxLen; omega
      case c6 => omega
      case c7 => simp
      intro v' w3 hown3 hgrow3 hiff
      have hb3 := ((Below.refl wr.heap.size wr).alloc (Nat.le_refl _) (.cells #[] 55)).grown hgrow3 (by simp) (fun g' hg' => (hown0.lt g' hg').1)
      obtain ⟨gw, cw, curw, rfl, hgw, hrw, hrs, hrt⟩ : ∃ gw cw curw, v' = .slice (some ⟨gw, 0, none⟩) us.length cw ∧ wr.heap.size ≤ gw ∧ Row w3 gw 55 curw ∧ (ucs (al v bv.1 us us.length)).length ≤ curw.size ∧ curw.toList.take (ucs (al v bv.1 us us.length)).length = ucs (al v bv.1 us us.length) := by
        obtain ⟨hx3, ⟨h1, h2⟩ | ⟨g, cap, cur, h1, h2, h3, h4, h5, h6, h7⟩⟩ := hown3
        · exact absurd h1 hiff
        · exact ⟨g, cap, cur, h1, h2, h3, by rw [hx3, h6]; exact Nat.mul_le_mul_right _ h4, by rw [hx3]; exact h7⟩
      have hPw : Pre w3 gw 55 curw.size (ucs (al v bv.1 us us.length) ++ []) := by
        rw [List.append_nil]; exact ⟨curw, hrw, rfl, hrs, hrt⟩
      obtain ⟨ga, capa, hga, hPa, hAa, hgaw⟩ : ∃ ga capa, w2.heap.size ≤ ga ∧ Pre w3 ga 55 capa (ucs (al v bv.1 us us.length) ++ []) ∧ (al v bv.1 us us.length ≠ [] → Aa = some ⟨ga, 0, none⟩) ∧ (ga < wr.heap.size ∨ us.length = 0 ∧ ga = gw) := by
        rcases Nat.eq_zero_or_pos us.length with h0 | h0
        · exact ⟨gw, curw.size, by omega, hPw, fun h => absurd (List.eq_nil_of_length_eq_zero (by rw [al_length]; exact h0)) h, .inr ⟨h0, rfl⟩⟩
        · obtain ⟨g, cp, e, hg, hle, -, hpre⟩ := pre_of_own HO.out.1 h0
          injection e with e1 e2 e3
          subst e1
          exact ⟨g, _, hg, by rw [List.append_nil]; exact hpre.below hb3 (Pre.lt hpre), fun _ => rfl, .inl (Pre.lt hpre)⟩
      have H3 := Lib.hid hb3
      have s3 := hb3.size
      have hga3 := Pre.lt hPa
      have hgw3 := Pre.lt hPw
      have RC3 := (RC2.out.below HO.out.2.1 (by omega)).below hb3 (by have := RC2.out.lt; omega)
      obtain ⟨C, hC, hmk⟩ := make_upd us.length hr
      obtain ⟨k1, hk1⟩ : ∃ k1, k1 = pk + 1 := ⟨_, rfl⟩
      have HK1 := Lib.hid hk1
      have hKR := Lib.hid (fun X (h : Below w3.heap.size w3 X) => (show X.cell? ⟨w1.heap.size, 0, none⟩ = some (.int .u32 v) ∧ X.cell? ⟨w1.heap.size, 1, none⟩ = some (.int .u32 pk) ∧ X.cell? ⟨w1.heap.size, 2, none⟩ = some (.int .u32 (v / pk)) ∧ X.cell? ⟨w1.heap.size, 3, none⟩ = some (.int .u32 (v % pk)) from
        ⟨(RC3.below h RC3.lt).get rfl, (RC3.below h RC3.lt).get rfl, (RC3.below h RC3.lt).get rfl, (RC3.below h RC3.lt).get rfl⟩))
      have HP3 := Lib.hid (And.intro hPw (And.intro hPa (And.intro hAa (And.intro RC3 hgaw))))
      have HSH := Lib.hid (fun (W : World) (hb : Below w3.heap.size w3 W) (hp : Pre W w3.heap.size 55 (us.length * 3) (ucs (List.replicate us.length u0) ++ [])) =>
        (show Calls Try.prog 32 #[.slice Aa us.length ca, .slice (some ⟨w3.heap.size, 0, none⟩) us.length us.length, .int .i64 pk, .int .i64 fk, .func (.func 30) #[.agg #[.int .u32 v, .int .u32 pk, .int .u32 (v / pk), .int .u32 (v % pk)]] #[]] W
            (ShufAt v (v / pk) (v % pk) pk fk (al v bv.1 us us.length) (.slice Aa us.length ca) (.slice (some ⟨w3.heap.size, 0, none⟩) us.length us.length) ga w3.heap.size capa (us.length * 3) [] [] W) from by
          have := shuffle v pk (v / pk) (v % pk) (.inl HCUT.out) pk fk (by omega) (by omega) (by omega) (by omega) Aa (some ⟨w3.heap.size, 0, none⟩) ga w3.heap.size capa (us.length * 3) ca us.length us.length (al v bv.1 us us.length) (List.replicate us.length u0) [] [] (by rw [al_length, List.length_replicate]) (by rw [al_length]; omega) (by rw [al_length]; exact Nat.le_refl _) (Nat.le_refl _) HP3.out.2.2.1 (fun _ => rfl) (by omega) (fun e => by cases e) W (HP3.out.2.1.below hb hga3) hp
          rw [al_length] at this
          exact this))
      have HC := Lib.hid hC
      have HW := Lib.hid (B2.out.trans ((HO.out.2.1.mono s2).trans (H3.out.mono (by omega))))
      clear hown3 hgrow3 hb3 hown0 hiff hrw hrs hrt hPw hPa hAa hk1 hC hgaw
      go_upto_region 12 with fail
      go_cut [16, 17, 18] (fun x y z wx => CutR v bv.1 pk k1 us gw w1.heap.size w x y z wx)
      case first =>
        --<<
        as_aux_lemma =>
          have hSr := hKR.out w3 (Below.refl _ _)
          go_region_held3 (fun X => X.cell? ⟨w1.heap.size, 0, none⟩ = some (.int .u32 v) ∧ X.cell? ⟨w1.heap.size, 1, none⟩ = some (.int .u32 pk) ∧ X.cell? ⟨w1.heap.size, 2, none⟩ = some (.int .u32 (v / pk)) ∧ X.cell? ⟨w1.heap.size, 3, none⟩ = some (.int .u32 (v % pk)))
            (first
              | with_reducible exact hS4
              | with_reducible exact hKR.out _ (((Below.refl _ w3).alloc (Nat.le_refl _) _).drew)
              | with_reducible exact hKR.out _ ((Below.refl _ w3).drew)
              | exact hSr)
            (first
              | (go_simp; go_at_call 32
                 refine (HSH.out _ (((Below.refl _ w3).alloc (Nat.le_refl _) _).drew) ⟨C, Row.new w3 _ C, by rw [← Array.length_toList, HC.out, ucs_length, List.length_replicate], by rw [List.append_nil, ucs_length, List.length_replicate]; exact Nat.le_refl _, by rw [List.append_nil, HC.out]; exact List.take_length⟩).mono ?_
                 rintro e w4 hs4
                 obtain ⟨fr, st, rfl, hX4, hR4⟩ := cutR_of (w := w) HCUT.out HK1.out hs4 ((HW.out.alloc HW.out.size _).drew) ((HP3.out.2.2.2.1.alloc _).drew) (by omega) (by omega) ((HP3.out.1.alloc _).drew) (by omega) (by rcases HP3.out.2.2.2.2 with h | h; exact .inl (by omega); exact .inr h) (by omega) (by omega) HP3.out.2.2.1
                 have hS4 : w4.cell? ⟨w1.heap.size, 0, none⟩ = some (.int .u32 v) ∧ w4.cell? ⟨w1.heap.size, 1, none⟩ = some (.int .u32 pk) ∧ w4.cell? ⟨w1.heap.size, 2, none⟩ = some (.int .u32 (v / pk)) ∧ w4.cell? ⟨w1.heap.size, 3, none⟩ = some (.int .u32 (v % pk)) := ⟨hR4.get rfl, hR4.get rfl, hR4.get rfl, hR4.get rfl⟩))
          all_goals
            go_wp2_with fail
            go_meet
            exact hX4
        -->>
      case rest =>
        obtain ⟨rfl, hBc, hIN⟩ := hcut
        rename World => wc
        obtain ⟨hrc4, ⟨cw4, hPwc⟩, gc, gi, ci, capi, Ai, resti, rfl, hAi, hPi, rfl, hrs4⟩ := hIN
        have hpsl : (psA v bv.1 pk us).length = us.length := by unfold psA; rw [psL_length, al_length]
        have hfull : (ordL (psA v bv.1 pk us) pk).length = us.length := by unfold psA; rw [ord_full (al_ok HCUT.out), al_length]
        obtain ⟨ps, hps⟩ : ∃ ps, psA v bv.1 pk us = ps := ⟨_, rfl⟩
        rw [hps] at hpsl hfull hPi hrs4
        have hgi := Pre.lt hPi
        have hgc := hrs4.lt
        have hgwc := Pre.lt hPwc
        have hrcc := hrc4.lt
        have c0 := hrs4.get (i := 0) (v := .int .i64 0) (by simp [ic, sts_get, show (ordL ps 0).length = 0 from rfl])
        have c1 := hrs4.get (i := pk) (v := .int .i64 us.length) (by simp [ic, sts_get, hfull])
        have k10 : (0 : Int) < (k1 : Int) := by have := HK1.out; omega
        have k11 : (pk : Int) < (k1 : Int) := by have := HK1.out; omega
        have k12 : (pk : Int) + 1 = (k1 : Int) := by have := HK1.out; omega
        have k13 : ((k1 : Int) != (k1 : Int)) = false := by simp
        have k14 : ((us.length : Int) != (us.length : Int)) = false := by simp
        have k15 : (0 : Int) ≤ (pk : Int) := by omega
        have X4 := Lib.hid (And.intro hBc (And.intro hrc4 (And.intro hPwc (And.intro hAi (And.intro hPi hrs4)))))
        have HPS := Lib.hid (And.intro hps (And.intro hpsl hfull))
        have s4 := hBc.size
        clear hBc hrc4 hPwc hAi hPi hrs4 hps hpsl hfull
        go_wp2_with fail
        refine (num 0 _).mono ?_
        rintro e w5 ⟨rfl, hb5⟩
        have hB5 := Lib.hid hb5
        have s5 := hb5.size
        have d0 := (X4.out.2.2.2.2.2.below hb5 hgc).get (i := 0) (v := .int .i64 0) (by simp [ic, sts_get, show (ordL ps 0).length = 0 from rfl])
        have d1 := (X4.out.2.2.2.2.2.below hb5 hgc).get (i := pk) (v := .int .i64 us.length) (by simp [ic, sts_get, HPS.out.2.2])
        obtain ⟨ib, hib, hib0, hib1, hib2⟩ := info_parts infoB
        have hmkb := fun W => Case.make_one (P := Try.prog) W .i64 67 4 ib (.bool false) rfl Try.underlying67 hib hib0 hib1 us.length (by rw [hib2]; omega) (by omega)
        obtain ⟨SE, hSE⟩ : ∃ SE, (List.replicate us.length (Value.bool false)).toArray = SE := ⟨_, rfl⟩
        rw [hSE] at hmkb
        have HSE := Lib.hid hSE
        clear hb5 c0 c1 hSE
        go_wp2
        go_loopw [20] (fun p wr => RelP ps pk us.length w5 p wr) (fun p _ => pk - (intOf p).toNat)
        case atStart => exact ⟨0, Nat.zero_le _, rfl, by rw [show (ordL ps 0).length = 0 from rfl, List.take_zero, seen_nil, HSE.out]; exact Row.new _ _ _, (Below.refl _ _).alloc (Nat.le_refl _) _⟩
        case round =>
          obtain ⟨p, hp, rfl, hsr, hbl⟩ := hrel
          rename World => wr
          rcases Nat.lt_or_ge p pk with hpk | hpk
          · have hkp : decide ((p : Int) < (pk : Int)) = true := decide_eq_true (by omega)
            obtain ⟨p1, hp1⟩ : ∃ p1 : Nat, p1 = p + 1 := ⟨_, rfl⟩
            have hp1i : (p : Int) + 1 = (p1 : Int) := by omega
            have hp0 : (0 : Int) ≤ (p : Int) := by omega
            have hpk1 : (p : Int) < (k1 : Int) := by have := HK1.out; omega
            have hp10 : (0 : Int) ≤ (p1 : Int) := by omega
            have hp1k : (p1 : Int) < (k1 : Int) := by have := HK1.out; omega
            obtain ⟨a, ha⟩ : ∃ a, (ordL ps p).length = a := ⟨_, rfl⟩
            obtain ⟨b, hb⟩ : ∃ b, (ordL ps p1).length = b := ⟨_, rfl⟩
            have hab : a ≤ b := by rw [← ha, ← hb]; exact ordL_mono ps (by omega)
            have hbm : b ≤ us.length := by rw [← hb, ← HPS.out.2.2]; exact ordL_mono ps (by omega)
            have HGC := Lib.hid (fun X (h : Below w5.heap.size w5 X) => (show X.cell? ⟨gc, p, none⟩ = some (.int .i64 a) ∧ X.cell? ⟨gc, p1, none⟩ = some (.int .i64 b) from by
              have hr := ((X4.out.2.2.2.2.2.below hB5.out hgc).below h (by omega))
              exact ⟨hr.get (by simp [ic, sts_get ps (show p ≤ pk by omega), ha]), hr.get (by simp [ic, sts_get ps (show p1 ≤ pk by omega), hb])⟩))
            obtain ⟨e0, e1⟩ := HGC.out wr hbl
            have hg1 : decide ((b : Int) < (a : Int)) = false := decide_eq_false (by omega)
            have hg1n : decide (b < a) = false := decide_eq_false (by omega)
            have hg2 : decide ((a : Int) > (b : Int)) = false := decide_eq_false (by omega)
            rw [ha] at hsr
            have HSR := Lib.hid (And.intro hsr hbl)
            have hpp := Lib.hid (And.intro hp1 (And.intro ha hb))
            clear hsr hbl hp1 ha hb
            go_wp2
            go_quiet (fail)
            have f0 := (HGC.out _ (below_drewN HSR.out.2 nq)).1
            clear e0 e1
            go_wp2
            go_loopw [21] (fun i wi => RelI ps pk us.length a b w5 i wi) (fun i _ => b - (intOf i).toNat)
            case atStart => exact ⟨a, Nat.le_refl _, hab, rfl, HSR.out.1, below_drewN HSR.out.2 nq⟩
            case round =>
              obtain ⟨i, hai, hib, rfl, hsr, hbl⟩ := hrel
              rename World => wi
              obtain ⟨e0, e1⟩ := HGC.out wi hbl
              rcases Nat.lt_or_ge i b with hi9 | hi9
              · have hki : decide ((i : Int) < (b : Int)) = true := decide_eq_true (by omega)
                have hpk2 : p < pk := hpk
                obtain ⟨q1, q2, q3⟩ := hpp.out
                obtain ⟨o, ho⟩ : ∃ o, (ordL ps pk)[i]? = some o := ⟨_, List.getElem?_eq_getElem (by rw [HPS.out.2.2]; omega)⟩
                have hkey := ordL_key ps hpk2 (by rw [q2]; exact hai) (by rw [← q1, q3]; exact hi9) ho
                have hom : o < us.length := by rw [← HPS.out.2.1]; exact hkey.1
                obtain ⟨x, hx⟩ : ∃ x, (al v bv.1 us us.length)[o]? = some x := ⟨_, List.getElem?_eq_getElem (by rw [al_length]; exact hom)⟩
                have hxa := al_a (by omega) hx
                have hLx : ((ordL ps pk).map fun i => (al v bv.1 us us.length).getD i u0)[i]? = some x := by rw [List.getElem?_map, ho]; simp [List.getD_eq_getElem?_getD, hx]
                have hPi := X4.out.2.2.2.2.1
                have hAi := X4.out.2.2.2.1 (by omega)
                have hPw := X4.out.2.2.1
                have hpart : Cut.part v (v / pk) (v % pk) x.t = (p : Int) := by
                  have h1 := hkey.2
                  rw [← HPS.out.1] at h1
                  unfold psA at h1
                  rw [key_of _ _ _ _ (by rw [al_length]; exact hom), List.getD_eq_getElem?_getD, hx] at h1
                  have h2 := (al_ok HCUT.out x (List.mem_of_getElem? hx)).1
                  unfold pn at h1
                  simp only [Option.getD_some] at h1
                  omega
                have HPT := Lib.hid (fun W => hpart ▸ partAny v pk (v / pk) (v % pk) x.t (.inl HCUT.out) hxa.2.1 W)
                obtain ⟨xt, hxt⟩ : ∃ xt, x.t = xt := ⟨_, rfl⟩
                obtain ⟨xb, hxb⟩ : ∃ xb, x.b = xb := ⟨_, rfl⟩
                have HCE := Lib.hid (fun X (h : Below w5.heap.size w5 X) => (show (X.cell? ⟨gi, i * 3, none⟩ = some (.int .u32 xt) ∧ X.cell? ⟨gi, i * 3 + 1, none⟩ = some (.int .u64 o) ∧ X.cell? ⟨gi, i * 3 + 2, none⟩ = some (.int .u64 xb)) ∧
                    (X.cell? ⟨gw, o * 3, none⟩ = some (.int .u32 xt) ∧ X.cell? ⟨gw, o * 3 + 1, none⟩ = some (.int .u64 o) ∧ X.cell? ⟨gw, o * 3 + 2, none⟩ = some (.int .u64 xb)) ∧
                    (X.cell? ⟨w1.heap.size, 0, none⟩ = some (.int .u32 v) ∧ X.cell? ⟨w1.heap.size, 1, none⟩ = some (.int .u32 pk) ∧ X.cell? ⟨w1.heap.size, 2, none⟩ = some (.int .u32 (v / pk)) ∧ X.cell? ⟨w1.heap.size, 3, none⟩ = some (.int .u32 (v % pk))) from by
                  have r1 := Pre.upd ((hPi.below hB5.out hgi).below h (by omega)) hLx
                  have r2 := Pre.upd ((hPw.below hB5.out hgwc).below h (by omega)) hx
                  have r3 := (X4.out.2.1.below hB5.out hrcc).below h (by omega)
                  rw [hxt, hxb, hxa.1] at r1 r2
                  exact ⟨r1, r2, r3.get rfl, r3.get rfl, r3.get rfl, r3.get rfl⟩))
                rw [hxt] at HPT
                have hfr := fresh (ordL_nodup ps pk) ho
                have hsc : wi.cell? ⟨w5.heap.size, o, none⟩ = some (.bool false) := hsr.get (by rw [List.getElem?_toArray]; exact seen_get hom hfr)
                subst hAi
                obtain ⟨⟨m0, m1, m2⟩, -, -⟩ := HCE.out wi hbl
                have HSR2 := Lib.hid (And.intro hsr (And.intro hbl (And.intro hsc ho)))
                have hi0 : (0 : Int) ≤ (i : Int) := by omega
                have him : (i : Int) < (us.length : Int) := by omega
                have ho0 : (0 : Int) ≤ (o : Int) := by omega
                have homi : (o : Int) < (us.length : Int) := by omega
                have hwm : IntKind.u64.wrap (us.length : Int) = (us.length : Int) := by rw [IntKind.wrap_u64]; omega
                have hg3 : decide ((us.length : Int) ≤ (o : Int)) = false := decide_eq_false (by omega)
                have hg4 : decide ((o : Int) ≥ (us.length : Int)) = false := decide_eq_false (by omega)
                have hg3n : decide (us.length ≤ o) = false := decide_eq_false (by omega)
                have hppn : ((p : Int) != (p : Int)) = false := by simp
                have hne := fun W => neq_upd ⟨xt, o, xb, by rw [← hxt]; exact x.tb, by omega, by rw [← hxb]; exact x.bb⟩ ⟨xt, o, xb, by rw [← hxt]; exact x.tb, by omega, by rw [← hxb]; exact x.bb⟩ W
                simp only [bne_self_eq_false] at hne
                have hswi := hbl.size
                have hEX := Lib.hid (show a < i → ∃ j1 : Nat, (i : Int) - 1 = (j1 : Int) ∧ (0 : Int) ≤ (j1 : Int) ∧ (j1 : Int) < (us.length : Int) ∧ ∃ o' : Nat, decide (o ≤ o') = false ∧ decide ((o : Int) ≤ (o' : Int)) = false ∧ decide ((o' : Int) ≥ (o : Int)) = false ∧ ∀ X, Below w5.heap.size w5 X → X.cell? ⟨gi, j1 * 3 + 1, none⟩ = some (.int .u64 o') from fun hai' => by
                  obtain ⟨o', ho'⟩ : ∃ o', (ordL ps pk)[i - 1]? = some o' := ⟨_, List.getElem?_eq_getElem (by rw [HPS.out.2.2]; omega)⟩
                  have hlt := ordL_lt ps hpk2 (by rw [q2]; exact hai') (by rw [← q1, q3]; exact hi9) ho ho'
                  have hom' : o' < us.length := by omega
                  obtain ⟨x', hx'⟩ : ∃ x, (al v bv.1 us us.length)[o']? = some x := ⟨_, List.getElem?_eq_getElem (by rw [al_length]; exact hom')⟩
                  have hxa' := al_a (by omega) hx'
                  have hLx' : ((ordL ps pk).map fun i => (al v bv.1 us us.length).getD i u0)[i - 1]? = some x' := by rw [List.getElem?_map, ho']; simp [List.getD_eq_getElem?_getD, hx']
                  refine ⟨i - 1, by omega, by omega, by omega, o', decide_eq_false (by omega), decide_eq_false (by omega), decide_eq_false (by omega), fun X h => ?_⟩
                  have r1 := Pre.upd ((hPi.below hB5.out hgi).below h (by omega)) hLx'
                  rw [hxa'.1] at r1
                  exact r1.2.1)
                clear hsr hbl hsc ho hx hxa hLx hPi hPw hpart hxt hxb hfr q1 q2 q3 hkey
                go_wp2
                obtain ⟨wq, hwq⟩ : ∃ wq, wi.alloc (.cells #[.int .u32 xt, .int .u64 o, .int .u64 xb] 55) = wq := ⟨_, rfl⟩
                have RX : Row wq wi.heap.size 55 #[.int .u32 xt, .int .u64 o, .int .u64 xb] := hwq ▸ Row.new _ _ _
                have hbq : Below w5.heap.size w5 wq := hwq ▸ HSR2.out.2.1.alloc hswi _
                have RS : Row wq w5.heap.size 4 (Stab.seen ((ordL ps pk).take i) us.length).toArray := hwq ▸ HSR2.out.1.alloc _
                have HQ := Lib.hid (And.intro hbq (And.intro RS RX))
                rw [hwq]
                have HF := Lib.hid (fun X (h : Below wq.heap.size wq X) => (show (X.cell? ⟨wi.heap.size, 0, none⟩ = some (.int .u32 xt) ∧ X.cell? ⟨wi.heap.size, 1, none⟩ = some (.int .u64 o) ∧ X.cell? ⟨wi.heap.size, 2, none⟩ = some (.int .u64 xb)) ∧ X.cell? ⟨w5.heap.size, o, none⟩ = some (.bool false) ∧
                    (X.cell? ⟨gw, o * 3, none⟩ = some (.int .u32 xt) ∧ X.cell? ⟨gw, o * 3 + 1, none⟩ = some (.int .u64 o) ∧ X.cell? ⟨gw, o * 3 + 2, none⟩ = some (.int .u64 xb)) ∧
                    (X.cell? ⟨w1.heap.size, 0, none⟩ = some (.int .u32 v) ∧ X.cell? ⟨w1.heap.size, 1, none⟩ = some (.int .u32 pk) ∧ X.cell? ⟨w1.heap.size, 2, none⟩ = some (.int .u32 (v / pk)) ∧ X.cell? ⟨w1.heap.size, 3, none⟩ = some (.int .u32 (v % pk))) ∧ X.cell? ⟨gc, p, none⟩ = some (.int .i64 a) from by
                  have h' := HQ.out.1.trans (h.mono HQ.out.1.size)
                  have g1 := HCE.out X h'
                  have g2 := (HQ.out.2.2.below h HQ.out.2.2.lt)
                  exact ⟨⟨g2.get rfl, g2.get rfl, g2.get rfl⟩, (HQ.out.2.1.below h HQ.out.2.1.lt).get (by rw [List.getElem?_toArray]; exact seen_get hom (fresh (ordL_nodup ps pk) HSR2.out.2.2.2)), g1.2.1, g1.2.2, (HGC.out X h').1⟩))
                clear RX hbq RS hwq m0 m1 m2 e0 e1
                rcases Nat.lt_or_ge a i with hai2 | hai2
                · obtain ⟨j1, r1, r2, r3, o', r4n, r4, r5, r6⟩ := hEX.out hai2
                  have HR6 := Lib.hid r6
                  have hg5 : decide ((a : Int) < (i : Int)) = true := decide_eq_true (by omega)
                  have hg5n : decide (a < i) = true := decide_eq_true (by omega)
                  have hg6 : decide ((i : Int) > (a : Int)) = true := decide_eq_true (by omega)
                  clear r6 hai2
                  refine K.region_quiet (C := fun w' => Below wq.heap.size wq w') (by kernel_rfl) (by kernel_rfl) (K.below_draw wq) ?_
                  iterate 55 (first
                    | ((with_reducible refine wpQuiet_step (fun KK hKK => ?_))
                       first
                         | ((with_reducible refine K.quiet_else ?_ (K.Puts.mk' _) ?_)
                            (first | rfl | (simp [Region.wanted, yielded]; done))
                            (with_reducible refine hKK _ ?_))
                         | ((with_reducible refine K.quiet_if ?_ ?_)
                            (first | rfl | (simp [Region.wanted, yielded]; done))
                            first
                              | (apply K.quiet_val
                                 · intro w' hw'; obtain ⟨⟨x0, x1, x2⟩, x3, ⟨x4, x5, x6⟩, ⟨x7, x8, x9, x10⟩, x11⟩ := HF.out w' hw'; have x12 := HR6.out w' (HQ.out.1.trans (hw'.mono HQ.out.1.size)); go_simp; (try go_ints); exact K.Gives.mk' _ _
                                 · go_simp; exact K.Puts.mk' _)
                              | (apply K.quiet_call
                                 · intro w' hw'; obtain ⟨⟨x0, x1, x2⟩, x3, ⟨x4, x5, x6⟩, ⟨x7, x8, x9, x10⟩, x11⟩ := HF.out w' hw'; have x12 := HR6.out w' (HQ.out.1.trans (hw'.mono HQ.out.1.size)); go_simp; (try go_ints); exact K.Enters.mk' _ _ _
                                 · intro w' hw'; obtain ⟨⟨x0, x1, x2⟩, x3, ⟨x4, x5, x6⟩, ⟨x7, x8, x9, x10⟩, x11⟩ := HF.out w' hw'; have x12 := HR6.out w' (HQ.out.1.trans (hw'.mono HQ.out.1.size)); first
                                   | with_reducible exact K.calls_below hw' hw'.size (HPT.out _)
                                   | exact K.calls_below hw' hw'.size (HPT.out _)
                                 · go_simp; exact K.Puts.mk' _)
                            (with_reducible refine hKK _ ?_))
                       clear hKK KK)
                    | skip)
                  refine wpQuiet_nil ?_
                  intro w27 hb27
                  have h27 := HF.out w27 hb27
                  obtain ⟨⟨x0, x1, x2⟩, x3, -, -, -⟩ := h27
                  have hR27 := (HQ.out.2.1.below hb27 HQ.out.2.1.lt)
                  have hfz := hR27.free o
                  have hB27 := HQ.out.1.trans (hb27.mono HQ.out.1.size)
                  have HZ := Lib.hid (And.intro hR27 hB27)
                  clear hb27 hR27 hB27
                  go_wp2
                  go_roundw
                  case rel => exact ⟨i + 1, by omega, by omega, by go_num, by have h9 := HZ.out.1.set o (.bool true); rw [List.setIfInBounds_toArray, seen_set HSR2.out.2.2.2 hom] at h9; exact h9, HZ.out.2.setCell (Nat.le_refl _) _⟩
                  case measure => simp [intOf]; omega
                · --<<
                  as_aux_lemma =>
                    obtain rfl : a = i := by omega
                    have hg5 : decide ((a : Int) < (a : Int)) = false := decide_eq_false (by omega)
                    have hg5n : decide (a < a) = false := decide_eq_false (by omega)
                    have hg6 : decide ((a : Int) > (a : Int)) = false := decide_eq_false (by omega)
                    refine K.region_quiet (C := fun w' => Below wq.heap.size wq w') (by kernel_rfl) (by kernel_rfl) (K.below_draw wq) ?_
                    iterate 37 (first
                      | ((with_reducible refine wpQuiet_step (fun KK hKK => ?_))
                         first
                           | ((with_reducible refine K.quiet_else ?_ (K.Puts.mk' _) ?_)
                              (first | rfl | (simp [Region.wanted, yielded]; done))
                              (with_reducible refine hKK _ ?_))
                           | ((with_reducible refine K.quiet_if ?_ ?_)
                              (first | rfl | (simp [Region.wanted, yielded]; done))
                              first
                                | (apply K.quiet_val
                                   · intro w' hw'; obtain ⟨⟨x0, x1, x2⟩, x3, ⟨x4, x5, x6⟩, ⟨x7, x8, x9, x10⟩, x11⟩ := HF.out w' hw'; go_simp; (try go_ints); exact K.Gives.mk' _ _
                                   · go_simp; exact K.Puts.mk' _)
                                | (apply K.quiet_call
                                   · intro w' hw'; obtain ⟨⟨x0, x1, x2⟩, x3, ⟨x4, x5, x6⟩, ⟨x7, x8, x9, x10⟩, x11⟩ := HF.out w' hw'; go_simp; (try go_ints); exact K.Enters.mk' _ _ _
                                   · intro w' hw'; obtain ⟨⟨x0, x1, x2⟩, x3, ⟨x4, x5, x6⟩, ⟨x7, x8, x9, x10⟩, x11⟩ := HF.out w' hw'; first
                                     | with_reducible exact K.calls_below hw' hw'.size (HPT.out _)
                                     | exact K.calls_below hw' hw'.size (HPT.out _)
                                   · go_simp; exact K.Puts.mk' _)
                              (with_reducible refine hKK _ ?_))
                         clear hKK KK)
                      | skip)
                    iterate 1 (
                      with_reducible refine wpQuiet_step (fun KK hKK => ?_)
                      with_reducible refine K.quiet_if ?_ ?_
                      first | rfl | (simp [Region.wanted, yielded]; done)
                      apply K.quiet_val
                      · intro w' hw'; go_simp; (try go_ints); exact K.Gives.mk' _ _
                      · go_simp; exact K.Puts.mk' _
                      with_reducible refine hKK _ ?_
                      clear hKK KK)
                    iterate 9 (
                      with_reducible refine wpQuiet_step (fun KK hKK => ?_)
                      with_reducible apply K.quiet_else
                      · unfold Region.wanted yielded; exact rfl
                      · go_simp; exact K.Puts.mk' _
                      with_reducible refine hKK _ ?_
                      clear hKK KK)
                    iterate 2 (
                      with_reducible refine wpQuiet_step (fun KK hKK => ?_)
                      with_reducible refine K.quiet_if ?_ ?_
                      first | rfl | (simp [Region.wanted, yielded]; done)
                      apply K.quiet_val
                      · intro w' hw'; go_simp; (try go_ints); exact K.Gives.mk' _ _
                      · go_simp; exact K.Puts.mk' _
                      with_reducible refine hKK _ ?_
                      clear hKK KK)
                    refine wpQuiet_nil ?_
                    intro w27 hb27
                    have h27 := HF.out w27 hb27
                    obtain ⟨⟨x0, x1, x2⟩, x3, -, -, -⟩ := h27
                    have hR27 := (HQ.out.2.1.below hb27 HQ.out.2.1.lt)
                    have hfz := hR27.free o
                    have hB27 := HQ.out.1.trans (hb27.mono HQ.out.1.size)
                    have HZ := Lib.hid (And.intro hR27 hB27)
                    clear hb27 hR27 hB27
                    go_wp2
                    go_roundw
                    case rel => exact ⟨a + 1, by omega, by omega, by go_num, by have h9 := HZ.out.1.set o (.bool true); rw [List.setIfInBounds_toArray, seen_set HSR2.out.2.2.2 hom] at h9; exact h9, HZ.out.2.setCell (Nat.le_refl _) _⟩
                    case measure => simp [intOf]; omega
                  -->>
              · obtain rfl : i = b := by omega
                have hki : decide ((i : Int) < (i : Int)) = false := by simp
                have HSR2 := Lib.hid (And.intro hsr hbl)
                clear hsr hbl
                go_wp2
                go_roundw
                case rel => exact ⟨p1, by have := hpp.out.1; omega, by go_num, by rw [hpp.out.2.2]; exact HSR2.out.1, HSR2.out.2⟩
                case measure => have := hpp.out.1; simp [intOf]; omega
          · obtain rfl : p = pk := by omega
            have hkp : decide ((p : Int) < (p : Int)) = false := by simp
            have HSR := Lib.hid hbl
            clear hsr hbl
            go_wp2
            go_ret
            exact ⟨rfl, (X4.out.1.trans (hB5.out.mono s4)).trans (HSR.out.mono (by omega))⟩
theorem open_upds {H : Type} {enc : TypeId × Value → H} {w : World} {base : Nat} {held : Bool} {fuel : Nat} {cs : List Value} {x : DataW H × List MemPlace} (h : DataW.trod enc Try.prog w base (fun _ => true) held fuel 57 cs = some x) :
    ∃ (A : Option Addr) (l : List U3) (cap : Nat), cs = [.slice A l.length cap] ∧ (A = none → l.length = 0 ∧ cap = 0) ∧ l.length ≤ cap ∧ Lay w w.heap.size A (ucs l) ∧ (x.1 = .nil ∧ cap = 0 ∨ ∃ xs ys, x.1 = .slice xs ys ∧ xs.length + ys.length = cap) :=
  open_list (f := 2) uc uc_length (by decide) uc_of Try.underlying57 (by kernel_rfl) rfl h
theorem bytesU : Try.prog.bytesOf 55 = 24 := by kernel_rfl
theorem upds_reach {H : Type} {d0 d1 d2 d3 : DataW H} {n cap : Nat}
    (hsz : (DataW.weightsEach Try.prog [57, 34, 3, 3] [d0, d1, d2, d3]).all (· ≤ reachBytes) = true) (hc : d0 = .nil ∧ cap = 0 ∨ ∃ xs ys, d0 = .slice xs ys ∧ xs.length + ys.length = cap) (hn : n ≤ cap) : n * 24 ≤ 140737488351232 := by
  rcases hc with ⟨rfl, h⟩ | ⟨xs, ys, rfl, h⟩
  · omega
  · have := sized_slice hsz (j := 0) (t := 57) (e := 55) rfl rfl Try.underlying57
    rw [bytesU] at this
    unfold reachBytes at this
    omega
theorem own : ownKnob Try.prog.godebug = none := by kernel_rfl
set_option maxRecDepth 100000 in
theorem lifted (os : Os) (started : os.Started) (H : Type) (enc : TypeId × Value → H) :
    ReturnsInHanded {} Try.checked os 9 .any (Rows.sieveStableSpec.pre6 enc Try.prog Try.f9 Rows.sieveStableRow.domain false) (Rows.sieveStableSpec.post enc Try.prog Try.f9 false true false false) := by
  refine returnsInHanded_of_change_sized (C := Try.checked) own started (by kernel_rfl) Try.func9
    (ChangeSpec.witness6 (enc := enc) (C := Try.checked) false ⟨#[], #[.slice none 0 0, .int .u32 0, .int .i64 0, .int .i64 0], []⟩ 8 (by kernel_rfl) (by kernel_rfl) (by kernel_rfl) (by kernel_rfl)) ?_
  intro W base args ds gs before hval0 hW hcnd hsz0 _
  have hsz : (DataW.weightsEach Try.prog (Try.f9.params.toList ++ Rows.sieveStableSpec.plain.varTypes Try.prog) (ds ++ gs)).all (· ≤ reachBytes) = true := hsz0
  have hval : ∀ (j : Nat) t v, Try.f9.params[j]? = some t → args[j]? = some v → Value.okWide Try.prog W .any base t v := hval0
  have hW' := hW
  obtain ⟨p, q, hA0, hV, rfl, hfz, hnd⟩ := hW
  have hA : DataW.TrodAll enc Try.prog W 0 (fun _ => true) true Try.f9.params.toList args.toList ds p := hA0
  rw [Try.params9] at hA hval hsz
  obtain ⟨v0, vs0, d0, ds0, p0, q0, hargs, rfl, rfl, h0, r0⟩ := trodAll_cons hA
  obtain ⟨v1, vs1, d1, ds1, p1, q1, rfl, rfl, rfl, h1, r1⟩ := trodAll_cons r0
  obtain ⟨v2, vs2, d2, ds2, p2, q2, rfl, rfl, rfl, h2, r2⟩ := trodAll_cons r1
  obtain ⟨v3, vs3, d3, ds3, p3, q3, rfl, rfl, rfl, h3, r3⟩ := trodAll_cons r2
  obtain ⟨rfl, rfl, rfl⟩ := trodAll_nil r3
  obtain rfl : args = #[v0, v1, v2, v3] := by cases args; simp_all
  obtain ⟨rfl, rfl⟩ := trodVars_none hV
  have hlt : ∀ x ∈ p0 ++ p1 ++ p2 ++ p3, x.block < W.heap.size := fun x hx => hW'.lt x (by simpa using hx)
  have k0 := h0
  obtain ⟨a1, rfl, rfl, rfl, w1⟩ := open_int Try.underlying34 (hval 1 34 v1 rfl rfl) h1
  obtain ⟨a2, rfl, rfl, rfl, w2⟩ := open_int Try.underlying3 (hval 2 3 v2 rfl rfl) h2
  obtain ⟨a3, rfl, rfl, rfl, w3⟩ := open_int Try.underlying3 (hval 3 3 v3 rfl rfl) h3
  obtain ⟨fu, hfu⟩ := h0
  obtain ⟨A, l, cap, hcs, hnone, hn, hlies, hcase⟩ := open_upds hfu
  obtain ⟨a0', n0', c0', rfl⟩ := okWide_slice Try.underlying57 (hval 0 57 v0 rfl rfl)
  simp only [Value.cells, List.cons.injEq, and_true] at hcs
  obtain ⟨rfl, rfl, rfl⟩ := Value.slice.inj hcs
  refine (walk _ _ _ (upds_reach hsz hcase hn) _ _ _ (bounds_u32 w1) (bounds_i64 w2) (bounds_i64 w3) W hlies).mono fun e W' ⟨he, bel⟩ => ?_
  subst he
  exact ⟨_, rfl, _, _, _, [], _, [], hW', trodAll_mk1 (shut_bool Try.underlying4 _), (trodAll_cons_mk (Below.trod (by kernel_rfl) (by kernel_rfl) (of_decide_eq_true (by kernel_rfl)) k0 bel (fun x hx => hlt x (by simp [hx]))) (trodAll_cons_mk (shut_int Try.underlying34 w1) (trodAll_cons_mk (shut_int Try.underlying3 w2) (trodAll_cons_mk (shut_int Try.underlying3 w3) trodAll_mk0)))), rfl, bel.frame _, fun h => by cases h⟩
theorem over : Rows.sieveStableRow.holds Try.pinned (OpenSpec.ofChange Rows.sieveStableSpec) :=
  OpenClaim.holds_of_wide 9 Try.f9 rfl rfl rfl rfl rfl rfl rfl ⟨rfl, rfl, rfl, rfl, rfl⟩ rfl rfl rfl rfl rfl (by kernel_rfl) Try.func9 (by kernel_rfl)
    (of_decide_eq_true (by kernel_rfl)) (by unfold Func.isWrapper; first | (rw [if_pos (by decide +kernel)]; kernel_rfl) | (rw [if_neg (by decide +kernel)]; exact ⟨rfl, rfl⟩))
    (fun os started H enc _ => lifted os started H enc)
theorem proved : Rows.SieveStableSaid := over
#print axioms proved
end Go.Proofs.Ytepljdnhnnpdmaa.sieveStable
