/-
  Wide numbers in a slice of words: muladd and divided, told by the number that the words make. No condition.
-/
import Derived.Test.YtbbldcbilnkkdaaDoorOverP
import Derived.Test.YtbbldcbilnkkdaaDoorK4
import Derived.Test.YtbbldcbilnkkdaaDoorTurn
import Derived.Deep.AppendLies
set_option linter.unusedVariables false
set_option linter.unusedSimpArgs false
namespace Go.Proofs.YtbbldcbilnkkdaaDoor.Wide
open Go.RowKit Go.ChangeShapes Num Tly Ref K Reck

def u64s (l : List Int) : List Value := l.map (Value.int .u64)
theorem u64s_get {l : List Int} {i : Nat} {x : Int} (h : l[i]? = some x) : (u64s l)[i]? = some (.int .u64 x) := by simp [u64s, h]
theorem u64s_set (l : List Int) (i : Nat) (x : Int) : (u64s l).set i (.int .u64 x) = u64s (l.set i x) := by simp [u64s, List.map_set]
theorem infoU64 : (Tryd.prog.info? 22).map (fun i => (i.zero, i.size, i.bytes)) = some (some (.int .u64 0), 1, 8) := by kernel_rfl
section
variable {P : Program} {w : World} {base : Nat} {t ty e : TypeId} {i : TypeInfo} {z : Value} {size bytes : Nat} {v : Value} {n m c : Nat} {xs news : List Value} {a : Addr}
theorem run_append_two (ht : P.underlying t = some (.slice e)) (hi : P.info? e = some i) (hz : i.zero = some z) (hsize : i.size = size) (hby : i.bytes = bytes) (hzs : z.cells.size = size) (hsz : 0 < size)
    (hown : w.ownsRow base e size v n xs) (hl : news.length = m * size) (hnews : ∀ j u, news[j]? = some u → w.cell? (a.add j) = some u) (h1 : ∀ u ∈ news, u.oneCell' = true) (h63 : n + m ≤ maxLen) (hbytes : (n + m) * bytes ≤ 140737488355328) (hbase : base ≤ w.heap.size) (hm : 0 < m) :
    ∃ v' w', (Builtin.append_ #[t, t] ty #[v, .slice (some a) m c]).run P w = .ok v' w' ∧ w'.ownsRow base e size v' (n + m) (xs ++ news) ∧ w.grownBy w' v.ownBlock ∧ (v'.ownBlock = v.ownBlock ∨ v'.ownBlock = some w.heap.size) := by
  obtain ⟨v', w', hrun, r1, r2, -⟩ := run_append_own (P := P) w base t ty e i z size bytes ht hi hz hsize hby hzs hsz v n xs hown a m c news hl hnews h1 h63 hbytes hbase
  refine ⟨v', w', hrun, r1, r2, ?_⟩
  have hsm : n + m ≤ 9223372036854775807 := by simp only [maxLen] at h63; omega
  obtain ⟨hx, ⟨rfl, rfl⟩ | ⟨g, cap, cur, rfl, hg, hh, hc, hcm, hs, htk⟩⟩ := hown
  · have := run_append_nil (P := P) w t ty e i z ht hi hz a m c news (by rw [hsize]; exact hl) hnews hm (by omega) (by rw [hby]; have hb := hbytes; simp only [Nat.zero_add] at hb; omega)
    rw [hrun] at this
    injection this with e1 e2
    exact .inr (by rw [e1]; rfl)
  · by_cases hroom : n + m ≤ cap
    · have := run_append_room (P := P) w t ty e i ht hi g n cap cur hh a m c news (by rw [hsize]; exact hl) hnews h1 hroom (by rw [hsize, hs, hl, ← Nat.add_mul]; exact Nat.mul_le_mul_right _ hroom)
      rw [hrun] at this
      injection this with e1 e2
      exact .inl (by rw [e1]; rfl)
    · have hol : ∀ j u, xs[j]? = some u → w.cell? ((⟨g, 0, none⟩ : Addr).add j) = some u :=
        World.ownsRow.cells (base := base) (e := e) (size := size) (v := .slice (some ⟨g, 0, none⟩) n cap) (n := n) ⟨hx, .inr ⟨g, cap, cur, rfl, hg, hh, hc, hcm, hs, htk⟩⟩ (g := g) rfl
      have := run_append_grow (P := P) w t ty e i z ht hi hz ⟨g, 0, none⟩ n cap xs (by rw [hsize]; exact hx) hol a m c news (by rw [hsize]; exact hl) hnews (by omega) (by omega) (by rw [hby]; exact growslice_fits (by omega) hbytes)
      rw [hrun] at this
      injection this with e1 e2
      exact .inr (by rw [e1]; rfl)
theorem append_two {ops : Array Oper} {rest : List Oper} {o : Oper} {b : Act} {Q : Exit → Act → World → Prop} (hgd : o.guard = none) (s x : Operand) (t : TypeId)
    (ho : o.op = .call { callee := .builtin .append, args := #[s, x], argTypes := #[t, t] }) (base : Nat) (e : TypeId) (i : TypeInfo) (z : Value) (size bytes : Nat)
    (ht : P.underlying t = some (.slice e)) (hi : P.info? e = some i) (hz : i.zero = some z) (hsize : i.size = size) (hby : i.bytes = bytes) (hzs : z.cells.size = size) (hsz : 0 < size)
    (v : Value) (n : Nat) (xs : List Value) (hs : b.eval s = v) (hown : w.ownsRow base e size v n xs) (ad : Addr) (m c : Nat) (news : List Value) (hx : b.eval x = .slice (some ad) m c)
    (hl : news.length = m * size) (hnews : ∀ j u, news[j]? = some u → w.cell? (ad.add j) = some u) (h1 : ∀ u ∈ news, u.oneCell' = true) (h63 : n + m ≤ maxLen) (hbytes : (n + m) * bytes ≤ 140737488355328) (hbase : base ≤ w.heap.size) (hm : 0 < m)
    (h : ∀ v' w', w'.ownsRow base e size v' (n + m) (xs ++ news) → w.grownBy w' v.ownBlock → (v'.ownBlock = v.ownBlock ∨ v'.ownBlock = some w.heap.size) → wpList P ops Q rest (b.put o.dst v') w') : wpList P ops Q (o :: rest) b w := by
  refine wpList_plain hgd fun K hK => ?_
  obtain ⟨v', w', hrun, r1, r2, r3⟩ := run_append_two (P := P) (ty := o.type) (a := ad) (c := c) ht hi hz hsize hby hzs hsz hown hl hnews h1 h63 hbytes hbase hm
  unfold Oper.wp
  simp [execOp, ho, resolve, invoke, builtin, hs, hx, hrun, Result.andThen]
  exact hK _ _ (h v' w' r1 r2 r3)
end
theorem _root_.Go.Proofs.YtbbldcbilnkkdaaDoor.Reck.Turn.grown {g : Nat} {w w' : World} (h : w.grownBy w' (some g)) (hg : g < w.heap.size) : Turn g w w' :=
  ⟨(Below.refl g w).grown h (Nat.le_of_lt hg) (fun b hb => by injection hb with e; omega), fun k hk hn => h.block k hk (by intro e; injection e with e; exact hn e)⟩
/-- The slice v at block g holds the words of m, none too many. -/
def Wid (w : World) (g : Nat) (v : Value) (m : Int) (N : Nat) : Prop :=
  ∃ n cap : Nat, n ≤ N ∧ v = .slice (some ⟨g, 0, none⟩) n cap ∧ n ≤ cap ∧ cap ≤ maxLen ∧ Pre w g 22 cap (u64s (digs 18446744073709551616 m n)) ∧ 0 ≤ m ∧ m < 18446744073709551616 ^ n ∧ (n = 0 ∨ 18446744073709551616 ^ (n - 1) ≤ m)
theorem Wid.lt {w : World} {g : Nat} {v : Value} {m : Int} {N : Nat} (h : Wid w g v m N) : g < w.heap.size := by obtain ⟨_, _, _, _, _, _, h, _⟩ := h; exact h.lt
theorem Wid.up {w : World} {g : Nat} {v : Value} {m : Int} {N M : Nat} (h : Wid w g v m N) (hn : N ≤ M) : Wid w g v m M := by obtain ⟨n, cap, h1, h2⟩ := h; exact ⟨n, cap, by omega, h2⟩
theorem own_of_pre {w : World} {base g : Nat} {e : TypeId} {n cap : Nat} {xs : List Value} (h : Pre w g e cap xs) (hb : base ≤ g) (hm : cap ≤ maxLen) (hl : xs.length = n) : w.ownsRow base e 1 (.slice (some ⟨g, 0, none⟩) n cap) n xs := by
  have := h.own hb hm
  rwa [hl] at this
theorem u64s_len (q z : Int) (n : Nat) : (u64s (digs q z n)).length = n := by rw [u64s, List.length_map, digs_length]
/-- The block of what comes out: the old one, or a new one. -/
def Near (g : Nat) (w : World) (g' : Nat) : Prop := g' = g ∨ w.heap.size ≤ g'
/-- What is carried behind the first words. -/
def pcar (m k p : Int) (i : Nat) : Int := (m % 18446744073709551616 ^ i * k + p) / 18446744073709551616 ^ i
theorem pcar_zero (m k p : Int) : pcar m k p 0 = p := by simp [pcar, Int.emod_one]
theorem pcar_bound (m k p : Int) (k0 : 0 ≤ k) (k1 : k < 18446744073709551616) (p0 : 0 ≤ p) (p1 : p < 18446744073709551616) (i : Nat) : 0 ≤ pcar m k p i ∧ pcar m k p i < 18446744073709551616 := by
  have hP : (0 : Int) < 18446744073709551616 ^ i := pow_pos' q_pos i
  have h1 := Int.emod_nonneg m (show (18446744073709551616 : Int) ^ i ≠ 0 by omega)
  have h2 := Int.emod_lt_of_pos m hP
  unfold pcar
  generalize (18446744073709551616 : Int) ^ i = P at *
  generalize m % P = x at *
  have h3 : x * k ≤ (P - 1) * 18446744073709551615 := Int.mul_le_mul (by omega) (by omega) k0 (by omega)
  have h4 : 0 ≤ x * k := Int.mul_nonneg h1 k0
  refine ⟨Int.ediv_nonneg (by omega) (by omega), Int.ediv_lt_of_lt_mul hP ?_⟩
  omega
theorem pcar_step (m k p : Int) (i : Nat) :
    (dig 18446744073709551616 m i * k + pcar m k p i) % 18446744073709551616 = dig 18446744073709551616 (m * k + p) i ∧
    (dig 18446744073709551616 m i * k + pcar m k p i) / 18446744073709551616 = pcar m k p (i + 1) := by
  have hP : (0 : Int) < 18446744073709551616 ^ i := pow_pos' q_pos i
  have hm := mod_succ q_pos m i
  have e1 : (m % 18446744073709551616 ^ (i + 1) * k + p) / 18446744073709551616 ^ i = dig 18446744073709551616 m i * k + pcar m k p i := by
    rw [hm]
    unfold pcar
    rw [Int.add_mul, Int.mul_assoc, show m % 18446744073709551616 ^ i * k + 18446744073709551616 ^ i * (dig 18446744073709551616 m i * k) + p = (m % 18446744073709551616 ^ i * k + p) + 18446744073709551616 ^ i * (dig 18446744073709551616 m i * k) by omega,
      Int.add_mul_ediv_left _ _ (by omega), Int.add_comm]
  constructor
  · rw [← e1]
    unfold dig
    have h2 := Int.mul_ediv_add_emod m (18446744073709551616 ^ (i + 1))
    have e2 : m * k + p = (m % 18446744073709551616 ^ (i + 1) * k + p) + 18446744073709551616 ^ i * (18446744073709551616 * (m / 18446744073709551616 ^ (i + 1) * k)) := by
      conv => lhs; rw [← h2]
      rw [Int.pow_succ, Int.add_mul]
      rw [Int.mul_assoc, Int.mul_assoc]
      omega
    conv => rhs; rw [e2, Int.add_mul_ediv_left _ _ (show (18446744073709551616 : Int) ^ i ≠ 0 by omega), Int.add_mul_emod_self_left]
  · rw [← e1]
    unfold pcar
    rw [div_succ q_pos]
theorem pcar_end (m k p : Int) (n : Nat) (h0 : 0 ≤ m) (h1 : m < 18446744073709551616 ^ n) : pcar m k p n = (m * k + p) / 18446744073709551616 ^ n := by unfold pcar; rw [Int.emod_eq_of_lt h0 h1]
theorem mul_facts (m k p : Int) (k0 : 0 ≤ k) (i : Nat) :
    (dig 18446744073709551616 m i * k % 18446744073709551616 + pcar m k p i) % 18446744073709551616 = dig 18446744073709551616 (m * k + p) i ∧
    dig 18446744073709551616 m i * k / 18446744073709551616 + (dig 18446744073709551616 m i * k % 18446744073709551616 + pcar m k p i) / 18446744073709551616 = pcar m k p (i + 1) := by
  obtain ⟨h1, h2⟩ := pcar_step m k p i
  refine ⟨?_, ?_⟩
  · rw [← h1]; omega
  · rw [← h2]; omega
theorem digs_more (q z : Int) (n : Nat) : digs q z (n + 1) = digs q z n ++ [dig q z n] := by unfold digs; rw [List.range_succ, List.map_append]; rfl
def RelMa (g cap : Nat) (w : World) (m k p : Int) (n : Nat) (c i : Value) (wr : World) : Prop :=
  ∃ j : Nat, j ≤ n ∧ i = .int .i64 j ∧ c = .int .u64 (pcar m k p j) ∧ Pre wr g 22 cap (u64s (mix 18446744073709551616 (m * k + p) m n j)) ∧ Turn g w wr
set_option maxRecDepth 100000 in
set_option maxHeartbeats 4000000 in
theorem muladd (g : Nat) (v : Value) (m k p : Int) (N : Nat) (hN : N ≤ 1000000) (k0 : 1 ≤ k) (k1 : k < 18446744073709551616) (p0 : 0 ≤ p) (p1 : p < 18446744073709551616) (w : World) (hw : Wid w g v m N) :
    Calls Tryd.prog 75 #[v, .int .u64 k, .int .u64 p] w fun e w' => ∃ v', e = .returned v' ∧ ∃ g', Near g w g' ∧ Wid w' g' v' (m * k + p) (N + 1) ∧ Turn g w w' := by
  obtain ⟨n, cap, hn, rfl, hnc, hmc, hpre, h0, h1, hmin⟩ := hw
  obtain ⟨i0, hi, hz0, hz1, hz2⟩ := info_parts infoU64
  have HO := Lib.hid hpre
  have HP := Lib.hid (And.intro k0 (And.intro k1 (And.intro p0 p1)))
  have HM := Lib.hid (And.intro h0 (And.intro h1 hmin))
  have HNN := Lib.hid (And.intro hn (And.intro hN (And.intro hnc hmc)))
  have hg0 := Lib.hid hpre.lt
  clear hpre h0 h1 hmin hn hN hnc hmc k0 k1 p0 p1
  go_enter Tryd.func75, Tryd.ntmps75
  go_wp2
  go_loopw [7, 15] (fun c i wr => RelMa g cap w m k p n c i wr) (fun _ i _ => n - (intOf i).toNat)
  case atStart => exact ⟨0, Nat.zero_le _, rfl, by rw [pcar_zero], by rw [mix_zero]; exact HO.out, Turn.refl _ _⟩
  case round =>
    clear HO
    obtain ⟨j, hj, rfl, rfl, ha, hl⟩ := hrel
    have k0 : 1 ≤ k := HP.out.1
    have k1 := HP.out.2.1
    have p0 := HP.out.2.2.1
    have p1 := HP.out.2.2.2
    rcases Nat.lt_or_ge j n with h6 | h6
    · have hx := ha.get (u64s_get (mix_get _ _ _ h6))
      have hf := ha.free j
      have hlt := ha.lt
      obtain ⟨f1, f2⟩ := mul_facts m k p (by omega) j
      have hM := fun W => mul64 _ k (dig_nonneg q_pos m j) (dig_lt q_pos m j) (by omega) k1 W
      have pb := pcar_bound m k p (by omega) k1 p0 p1 j
      have pb1 := pcar_bound m k p (by omega) k1 p0 p1 (j + 1)
      have hadd := fun W => run_add (dig 18446744073709551616 m j * k % 18446744073709551616) (pcar m k p j) 0 (by omega) pb.1 (by omega) (by omega) W
      simp only [Int.add_zero] at hadd
      rw [f1] at hadd
      have HST := Lib.hid (mix_set 18446744073709551616 (m * k + p) m h6)
      generalize (dig 18446744073709551616 m j * k % 18446744073709551616 + pcar m k p j) / 18446744073709551616 = c1 at *
      generalize dig 18446744073709551616 m j * k % 18446744073709551616 = lo at *
      generalize dig 18446744073709551616 m j * k / 18446744073709551616 = hi' at *
      have hkb : decide ((j : Int) < (n : Int)) = true := by simp; omega
      have hnb : (n : Int) ≤ 1000000 := by have := HNN.out; omega
      have hnc : (n : Int) ≤ (cap : Int) := by have := HNN.out; omega
      have g0 : (0 : Int) ≤ j := by omega
      have g1 : (j : Int) < n := by omega
      have e3 : IntKind.u64.wrap (hi' + c1) = pcar m k p (j + 1) := by rw [f2, IntKind.wrap_u64]; omega
      clear f1 f2
      generalize dig 18446744073709551616 m j = x at *
      generalize dig 18446744073709551616 (m * k + p) j = y at *
      generalize pcar m k p j = c at *
      have HA := Lib.hid ha
      have HG := Lib.hid h6
      clear ha k0 k1 p0 p1 pb pb1 hj h6
      go_wp2_with fail
      refine (hM _).mono ?_
      rintro e w' ⟨rfl, rfl⟩
      clear hM
      go_wp2
      go_roundw
      case rel =>
        refine ⟨j + 1, by have := HG.out; omega, by go_num, rfl, ?_, hl.set _ _⟩
        rw [← HST.out, ← u64s_set]; exact HA.out.set _
      case measure => simp [intOf]; have := HG.out; omega
    · obtain rfl : j = n := by omega
      rw [mix_full] at ha
      have hy0 : 0 ≤ m * k + p := by have := Int.mul_nonneg HM.out.1 (show 0 ≤ k by omega); omega
      have hP : (0 : Int) < 18446744073709551616 ^ j := pow_pos' q_pos j
      have hpe := pcar_end m k p j HM.out.1 HM.out.2.1
      have pb := pcar_bound m k p (by omega) k1 p0 p1 j
      have hym : m ≤ m * k + p := by
        have h9 : m * 1 ≤ m * k := Int.mul_le_mul_of_nonneg_left k0 HM.out.1
        omega
      have hnn := HNN.out
      have HA := Lib.hid ha
      have HL := Lib.hid hl
      by_cases hc : 0 < pcar m k p j
      · have hdg : dig 18446744073709551616 (m * k + p) j = pcar m k p j := by
          rw [hpe]; unfold dig; exact Int.emod_eq_of_lt (by rw [← hpe]; omega) (by rw [← hpe]; exact pb.2)
        have hlt2 : m * k + p < 18446744073709551616 ^ (j + 1) := by
          rw [Int.pow_succ]
          have h8 := pb.2
          rw [hpe] at h8
          have := Int.lt_mul_of_ediv_lt hP h8
          rw [Int.mul_comm (18446744073709551616 ^ j)]; exact this
        have hge2 : 18446744073709551616 ^ j ≤ m * k + p := by
          rw [hpe] at hc
          have h8 : (1 : Int) ≤ (m * k + p) / 18446744073709551616 ^ j := hc
          have := (Int.le_ediv_iff_mul_le hP).mp h8
          omega
        have HF := Lib.hid (And.intro hlt2 hge2)
        have HDG := Lib.hid hdg
        have HGL := Lib.hid ha.lt
        have hown := own_of_pre (base := 0) (ha.alloc (.cells #[.int .u64 (pcar m k p j)] 22)) (Nat.zero_le _) hnn.2.2.2 (u64s_len _ _ _)
        clear ha hl hP hpe hdg hlt2 hge2 pb hym
        obtain ⟨c, hcc⟩ : ∃ c, c = pcar m k p j := ⟨_, rfl⟩
        rw [← hcc] at hc HDG hown ⊢
        clear hcc
        go_wp2_with (at_builtin; refine append_two rfl _ _ 119 rfl 0 22 i0 (.int .u64 0) 1 8 Tryd.underlying119 hi hz0 hz1 hz2 rfl (by decide) _ _ _ rfl hown ⟨wr.heap.size, 0, none⟩ 1 1 [.int .u64 c] rfl rfl ?c1 ?c2 ?c3 ?c4 ?c5 (by decide) ?_)
        case c1 =>
          intro i u hj
          match i, hj with
          | 0, hj => simp at hj; subst hj; simp [Addr.add]
        case c2 => intro u hu; simp at hu; subst hu; rfl
        case c3 => unfold maxLen; omega
        case c4 => omega
        case c5 => simp
        intro v' w1 hown' hgrow hat
        have ho : w1.ownsRow 0 22 1 v' (j + 1) (u64s (digs 18446744073709551616 (m * k + p) (j + 1))) := by
          rw [digs_more, HDG.out, u64s, List.map_append]
          exact hown'
        obtain ⟨g', cap', rfl, -, hnc', hmc', hp'⟩ := pre_of_own ho (by omega)
        have hat' : Near g w g' := by
          rcases hat with h | h
          · left; simpa [Value.ownBlock] using h
          · right
            have : g' = wr.heap.size + 1 := by simpa [Value.ownBlock] using h
            have := HL.out.size
            omega
        have hT : Turn g w w1 := (HL.out.trans (Turn.below (g := g) ((Below.refl wr.heap.size wr).alloc (Nat.le_refl _) (.cells #[.int .u64 c] 22)) (Nat.le_of_lt HGL.out))).trans (Turn.grown hgrow (by have := HGL.out; simp; omega))
        have HO := Lib.hid hp'
        have HT := Lib.hid hT
        have HAT := Lib.hid hat'
        have HC := Lib.hid (And.intro hnc' hmc')
        clear hown' hgrow ho hat hat' hT hp' hown hnc' hmc'
        go_wp2
        go_ret
        exact ⟨_, rfl, g', HAT.out, ⟨j + 1, cap', by omega, rfl, HC.out.1, HC.out.2, HO.out, hy0, HF.out.1, Or.inr HF.out.2⟩, HT.out⟩
      · have hlt2 : m * k + p < 18446744073709551616 ^ j := by
          rw [hpe] at hc
          have h8 : (m * k + p) / 18446744073709551616 ^ j < 1 := by omega
          have := Int.lt_mul_of_ediv_lt hP h8
          omega
        have HF := Lib.hid hlt2
        have HM2 := Lib.hid (show j = 0 ∨ 18446744073709551616 ^ (j - 1) ≤ m * k + p from HM.out.2.2.imp id (fun h => Int.le_trans h hym))
        clear ha hl hP hpe hlt2 pb hym
        obtain ⟨c, hcc⟩ : ∃ c, c = pcar m k p j := ⟨_, rfl⟩
        rw [← hcc] at hc ⊢
        clear hcc
        go_wp2
        go_ret
        exact ⟨_, rfl, g, Or.inl rfl, ⟨j, cap, by omega, rfl, hnn.2.2.1, hnn.2.2.2, HA.out, hy0, HF.out, HM2.out⟩, HL.out⟩
def RelDv (g cap : Nat) (w : World) (m k : Int) (n : Nat) (r i : Value) (wr : World) : Prop :=
  ∃ j : Nat, j ≤ n ∧ i = .int .i64 ((j : Int) - 1) ∧ r = .int .u64 (m / 18446744073709551616 ^ j % k) ∧ Pre wr g 22 cap (u64s (mix 18446744073709551616 m (m / k) n j)) ∧ Turn g w wr
def RelSt (g cap : Nat) (y : Int) (n : Nat) (w : World) (v : Value) (wr : World) : Prop :=
  ∃ l : Nat, l ≤ n ∧ v = .slice (some ⟨g, 0, none⟩) l cap ∧ Pre wr g 22 cap (u64s (digs 18446744073709551616 y l)) ∧ y < 18446744073709551616 ^ l ∧ wr = w
def lenV : Value → Nat
  | .slice _ n _ => n
  | _ => 0
theorem top_zero {y : Int} {l : Nat} (h0 : 0 ≤ y) (h1 : y < 18446744073709551616 ^ (l + 1)) (hd : dig 18446744073709551616 y l = 0) : y < 18446744073709551616 ^ l := by
  have hP : (0 : Int) < 18446744073709551616 ^ l := pow_pos' q_pos l
  unfold dig at hd
  rw [Int.pow_succ] at h1
  have h2 : y / 18446744073709551616 ^ l < 18446744073709551616 := Int.ediv_lt_of_lt_mul hP (by rw [Int.mul_comm]; exact h1)
  have h3 : 0 ≤ y / 18446744073709551616 ^ l := Int.ediv_nonneg h0 (by omega)
  rw [Int.emod_eq_of_lt h3 h2] at hd
  have h4 := Int.lt_mul_of_ediv_lt hP (show y / 18446744073709551616 ^ l < 1 by omega)
  omega
theorem top_some {y : Int} {l : Nat} (h0 : 0 ≤ y) (hd : dig 18446744073709551616 y l ≠ 0) : 18446744073709551616 ^ l ≤ y := by
  have hP : (0 : Int) < 18446744073709551616 ^ l := pow_pos' q_pos l
  by_cases h : 18446744073709551616 ^ l ≤ y
  · exact h
  · exfalso
    apply hd
    unfold dig
    rw [Int.ediv_eq_zero_of_lt h0 (by omega)]
    rfl
theorem pre_short {w : World} {g : Nat} {e : TypeId} {cap : Nat} {xs ys : List Value} (h : Pre w g e cap (xs ++ ys)) : Pre w g e cap xs := by
  obtain ⟨c, h1, h2, h3, h4⟩ := h
  refine ⟨c, h1, h2, by simp at h3; omega, ?_⟩
  have := congrArg (List.take xs.length) h4
  rwa [List.take_take, List.take_left, Nat.min_eq_left (by simp)] at this
set_option maxRecDepth 100000 in
set_option maxHeartbeats 4000000 in
theorem divided (g : Nat) (v : Value) (m k : Int) (N : Nat) (hN : N ≤ 1000000) (k0 : 1 ≤ k) (k1 : k < 18446744073709551616) (w : World) (hw : Wid w g v m N) :
    Calls Tryd.prog 76 #[v, .int .u64 k] w fun e w' => ∃ v', e = .returned (.tuple #[v', .int .u64 (m % k)]) ∧ Wid w' g v' (m / k) N ∧ Turn g w w' := by
  obtain ⟨n, cap, hn, rfl, hnc, hmc, hpre, h0, h1, hmin⟩ := hw
  have hq0 : 0 ≤ m / k := Int.ediv_nonneg h0 (by omega)
  have hq1 : m / k < 18446744073709551616 ^ n := Int.lt_of_le_of_lt (Int.ediv_le_self _ h0) h1
  have HO := Lib.hid hpre
  have HP := Lib.hid (And.intro k0 k1)
  have HM := Lib.hid (And.intro h0 (And.intro h1 (And.intro hq0 hq1)))
  have HNN := Lib.hid (And.intro hn (And.intro hN (And.intro hnc hmc)))
  have hnb : (n : Int) ≤ 1000000 := by omega
  clear hpre h0 h1 hmin hn hN k0 k1 hq0 hq1 hnc hmc
  go_enter Tryd.func76, Tryd.ntmps76
  go_wp2
  go_loopw [6, 7] (fun r i wr => RelDv g cap w m k n r i wr) (fun _ i _ => (intOf i + 1).toNat)
  case atStart => exact ⟨n, Nat.le_refl _, rfl, by rw [Int.ediv_eq_zero_of_lt HM.out.1 HM.out.2.1]; rfl, by rw [mix_full]; exact HO.out, Turn.refl _ _⟩
  case round =>
    clear HO
    obtain ⟨j, hj, hi, rfl, ha, hl⟩ := hrel
    have hnp : 0 < k := by have := HP.out.1; omega
    cases j with
    | zero =>
      rw [show (((0 : Nat) : Int) - 1) = -1 from rfl] at hi
      subst hi
      rw [mix_zero] at ha
      rw [Int.pow_zero, Int.ediv_one]
      have HA := Lib.hid ha
      have HL := Lib.hid hl
      clear ha hl
      obtain ⟨wL, hwL⟩ : ∃ wL, wL = wr := ⟨_, rfl⟩
      subst hwL
      obtain ⟨y, hy⟩ : ∃ y, y = m / k := ⟨_, rfl⟩
      have HY := Lib.hid hy
      rw [← hy] at HA
      have HY0 := Lib.hid (show 0 ≤ y by rw [hy]; exact HM.out.2.2.1)
      have HY1 := Lib.hid (show y < 18446744073709551616 ^ n by rw [hy]; exact HM.out.2.2.2)
      clear hy HM hnp
      go_wp2
      go_loopw [0] (fun v wr => RelSt g cap y n wL v wr) (fun v _ => lenV v)
      case atStart => exact ⟨n, Nat.le_refl _, rfl, HA.out, HY1.out, rfl⟩
      case round =>
        clear HA HY1
        obtain ⟨l, hln, rfl, hpre, hlt, hwr⟩ := hrel
        rw [hwr] at hpre ⊢
        clear hwr
        have hlb : (l : Int) ≤ 1000000 := by omega
        cases l with
        | zero =>
          have HO := Lib.hid hpre
          have HT := Lib.hid hlt
          clear hpre hlt
          go_wp2
          go_ret2
          exact ⟨_, rfl, HY.out ▸ (show Wid wL g _ y N from ⟨0, cap, Nat.zero_le _, rfl, Nat.zero_le _, HNN.out.2.2.2, HO.out, HY0.out, HT.out, Or.inl rfl⟩), HL.out⟩
        | succ l =>
          have hx := hpre.get (u64s_get (digs_get 18446744073709551616 y (show l < l + 1 by omega)))
          obtain ⟨l1, hl1⟩ : ∃ l1, l1 = l + 1 := ⟨_, rfl⟩
          have hlc : ((l1 : Nat) : Int) - 1 = (l : Int) := by omega
          have hlp : (0 : Int) < (l1 : Int) := by omega
          have hl0 : (0 : Int) ≤ (l : Int) := by omega
          have hll : (l : Int) < (l1 : Int) := by omega
          have hlcap : (l : Int) ≤ (cap : Int) := by have := HNN.out; omega
          have hlb2 : (l1 : Int) ≤ 1000000 := by omega
          rw [← hl1]
          have HL1 := Lib.hid hl1
          have HPR := Lib.hid hpre
          have HT := Lib.hid hlt
          have HG := Lib.hid hln
          have HNX := Lib.hid (show dig 18446744073709551616 y l = 0 → y < 18446744073709551616 ^ l from fun h => top_zero HY0.out HT.out h)
          have HSM := Lib.hid (show dig 18446744073709551616 y l ≠ 0 → 18446744073709551616 ^ l ≤ y from fun h => top_some HY0.out h)
          obtain ⟨d, hd⟩ : ∃ d, d = dig 18446744073709551616 y l := ⟨_, rfl⟩
          rw [← hd] at hx HNX HSM
          clear hlt hln hpre hl1 hd hlb
          by_cases hd0 : d = 0
          · subst hd0
            go_wp2
            go_roundw
            case rel =>
              refine ⟨l, by have := HG.out; omega, rfl, ?_, HNX.out rfl, rfl⟩
              have hp := HPR.out
              rw [digs_more, u64s, List.map_append] at hp
              exact pre_short hp
            case measure => simp [lenV]; have := HL1.out; omega
          · have hd1 : (d == 0) = false := by simpa using hd0
            have HD := Lib.hid hd0
            go_wp2
            go_ret2
            refine ⟨_, rfl, HY.out ▸ (show Wid wL g _ y N from ⟨l + 1, cap, by have := HG.out; have := HNN.out; omega, ?_, by have := HG.out; have := HNN.out; omega, HNN.out.2.2.2, HPR.out, HY0.out, HT.out, Or.inr (by rw [Nat.add_sub_cancel]; exact HSM.out HD.out)⟩), HL.out⟩
            rw [← HL1.out]; rfl
    | succ j =>
      rw [show (((j + 1 : Nat) : Int) - 1) = j by omega] at hi
      subst hi
      have h6 : j < n := by omega
      have hx := ha.get (u64s_get (mix_low_get 18446744073709551616 m (m / k) (show j < j + 1 by omega) h6))
      obtain ⟨e1, e2⟩ := long_div m k j 18446744073709551616 q_pos hnp
      have hdiv := fun W => div64 (m / 18446744073709551616 ^ (j + 1) % k) (dig 18446744073709551616 m j) k (Int.emod_nonneg _ (by omega)) (Int.emod_lt_of_pos _ hnp) (dig_nonneg q_pos m j) (dig_lt q_pos m j) HP.out.2 W
      rw [e1, e2] at hdiv
      have HDV := Lib.hid hdiv
      have HST := Lib.hid (mix_back 18446744073709551616 m (m / k) h6)
      have HPR := Lib.hid ha
      have HL := Lib.hid hl
      have HG := Lib.hid h6
      have hgr : g < wr.heap.size := ha.lt
      clear ha hdiv e1 e2 hl hj
      generalize m / 18446744073709551616 ^ (j + 1) % k = r at *
      generalize dig 18446744073709551616 m j = x at *
      generalize dig 18446744073709551616 (m / k) j = y at *
      have f0 : (0 : Int) ≤ (j : Int) := by omega
      have f1 : (j : Int) < n := by omega
      have f2 : (j : Int) < cap := by have := HNN.out; omega
      clear h6
      go_wp2_with fail
      refine (HDV.out _).mono ?_
      rintro e wD ⟨rfl, kD⟩
      have hpD := HPR.out.below kD hgr
      have hxD : wD.cell? ⟨g, j, none⟩ = some (.int .u64 x) := (kD.cell (p := ⟨g, j, none⟩) hgr).trans hx
      have hfD := hpD.free j
      have hgD := hpD.lt
      have HPD := Lib.hid hpD
      have HLD := Lib.hid (HL.out.trans (Turn.below (g := g) kD (Nat.le_of_lt hgr)))
      clear hx hgr kD hpD HDV HPR HL
      go_wp2
      go_roundw
      case rel =>
        refine ⟨j, by have := HG.out; omega, rfl, rfl, ?_, HLD.out.set _ _⟩
        rw [← HST.out, ← u64s_set]; exact HPD.out.set _
      case measure => simp [intOf]
end Go.Proofs.YtbbldcbilnkkdaaDoor.Wide
