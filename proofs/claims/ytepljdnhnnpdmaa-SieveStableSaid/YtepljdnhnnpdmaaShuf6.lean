/-
  The helpers of the shuffles' laws: a list with marks behind it; are the marks there; is a buffer untouched. No condition.
-/
import Derived.Test.YtepljdnhnnpdmaaShuf5
import Derived.Outline
set_option linter.unusedVariables false
set_option linter.unusedSimpArgs false
namespace Go.Proofs.Ytepljdnhnnpdmaa.Shuf
open Go.RowKit Go.Shelf Go.ChangeShapes Go.WideShapes Go.ChangeAt K Desk Cut Radix

theorem infoU : (Try.prog.info? 55).map (fun i => (i.zero, i.size, i.bytes)) = some (some (.agg #[.int .u32 0, .int .u64 0, .int .u64 0]), 3, 24) := by kernel_rfl
def u0 : U3 := ⟨0, 0, 0, by decide, by decide, by decide⟩
def u77 : U3 := ⟨77, 77, 77, by decide, by decide, by decide⟩
def u78 : U3 := ⟨78, 78, 78, by decide, by decide, by decide⟩
def marks : List Value := ucs [u77, u78]
/-- The first m of a list, and zeros. -/
def rs (l : List U3) (m : Nat) : List U3 := (List.range m).map fun i => l.getD i u0
theorem rs_length (l : List U3) (m : Nat) : (rs l m).length = m := by simp [rs]
theorem rs_succ (l : List U3) (m : Nat) : rs l (m + 1) = rs l m ++ [l.getD m u0] := by simp [rs, List.range_succ]
theorem rs_self (l : List U3) : rs l l.length = l := by
  refine List.ext_getElem? fun j => ?_
  by_cases h : j < l.length
  · simp [rs, h, List.getD_eq_getElem?_getD]
  · rw [List.getElem?_eq_none (by rw [rs_length]; omega), List.getElem?_eq_none (by omega)]
theorem ucs_snoc (l : List U3) (x : U3) : ucs (l ++ [x]) = ucs l ++ uc x := by simp [ucs]
def RelU (w : World) (l : List U3) (m : Nat) (s i : Value) (wr : World) : Prop :=
  ∃ k : Nat, k ≤ m ∧ i = .int .i64 k ∧ wr.ownsRow w.heap.size 55 3 s k (ucs (rs l k)) ∧ Below w.heap.size w wr
def UpdAt (w : World) (l : List U3) (m : Nat) (e : Ending) (w' : World) : Prop := ∃ g cap, e = .returned (.slice (some ⟨g, 0, none⟩) m cap) ∧ w.heap.size ≤ g ∧ m + 2 ≤ cap ∧ Pre w' g 55 (cap * 3) (ucs (rs l m) ++ marks) ∧ Below w.heap.size w w'
theorem lay_upd {W : World} {B : Nat} {A : Option Addr} {l : List U3} (h : Lay W B A (ucs l)) {k : Nat} {x : U3} (hx : l[k]? = some x) :
    ∃ b off, A = some ⟨b, off, none⟩ ∧ b < B ∧ W.cell? ⟨b, off + k * 3, none⟩ = some (.int .u32 x.t) ∧ W.cell? ⟨b, off + k * 3 + 1, none⟩ = some (.int .u64 x.a) ∧ W.cell? ⟨b, off + k * 3 + 2, none⟩ = some (.int .u64 x.b) := by
  have hk := (List.getElem?_eq_some_iff.1 hx).1
  obtain ⟨b, off, e, hB, hc⟩ := h (by
    intro h0
    have h1 := ucs_length l
    rw [h0] at h1
    simp only [List.length_nil] at h1
    omega)
  have key : ∀ f v, (uc x)[f]? = some v → W.cell? ⟨b, off + k * 3 + f, none⟩ = some v := fun f v hv => by
    have := hc _ _ (flat_get (f := f) uc_length hx hv)
    rwa [← Nat.add_assoc] at this
  exact ⟨b, off, e, hB, key 0 _ rfl, key 1 _ rfl, key 2 _ rfl⟩
set_option maxRecDepth 100000 in
set_option maxHeartbeats 4000000 in
theorem updates (A : Option Addr) (l : List U3) (cap m : Nat) (hr : (m + 2) * 24 ≤ 140737488355328) (hl0 : l.length * 24 ≤ 140737488355328) (w : World) (hA : Lay w w.heap.size A (ucs l)) :
    Calls Try.prog 31 #[.slice A l.length cap, .int .i64 m] w (UpdAt w l m) := by
  obtain ⟨i0, hi, hz0, hz1, hz2⟩ := info_parts infoU
  have HL := Lib.hid hA
  clear hA
  go_enter Try.func31, Try.ntmps31
  go_wp2
  go_loopw [5, 6] (fun s i wr => RelU w l m s i wr) (fun _ i _ => m - (intOf i).toNat)
  case atStart => exact ⟨0, Nat.zero_le _, rfl, World.ownsRow_nil _ _ _ _, Below.refl _ _⟩
  case round =>
    obtain ⟨k, hk, rfl, hown, hl⟩ := hrel
    rcases Nat.lt_or_ge k m with h6 | h6
    · have hkb : decide ((k : Int) < (m : Int)) = true := decide_eq_true (by omega)
      obtain ⟨x, hx⟩ : ∃ x, l.getD k u0 = x := ⟨_, rfl⟩
      have HX := Lib.hid (show ucs (rs l (k + 1)) = ucs (rs l k) ++ [.int .u32 x.t, .int .u64 x.a, .int .u64 x.b] by rw [rs_succ, ucs_snoc, hx]; rfl)
      by_cases h7 : k < l.length
      · have hkl : decide ((k : Int) < (l.length : Int)) = true := decide_eq_true (by omega)
        obtain ⟨b, off, rfl, hB, c0, c1, c2⟩ := lay_upd (HL.out.below hl) (k := k) (x := x) (by rw [← hx, List.getD_eq_getElem?_getD, List.getElem?_eq_getElem h7]; rfl)
        have hB' : b < wr.heap.size := Nat.lt_of_lt_of_le hB hl.size
        clear hx
        go_wp2_with (at_builtin; refine wpList_append_own _ rfl _ _ 57 rfl w.heap.size 55 i0 (.agg #[.int .u32 0, .int .u64 0, .int .u64 0]) 3 24 Try.underlying57 hi hz0 hz1 hz2 rfl (by decide) _ _ _ rfl ((hown.alloc _).alloc _) ⟨wr.heap.size + 1, 0, none⟩ 1 1 [.int .u32 x.t, .int .u64 x.a, .int .u64 x.b] rfl ?c1 ?c2 ?c3 ?c4 ?c5 ?c6 ?_)
        case c1 => rfl
        case c2 =>
          intro j u hu
          have := (Row.at (Row.new (wr.alloc (.cells #[.int .u32 x.t, .int .u64 x.a, .int .u64 x.b] 55)) 55 #[.int .u32 x.t, .int .u64 x.a, .int .u64 x.b]) (b' := wr.heap.size + 1) (by simp)).get (i := j) (v := u) (by simpa using hu)
          rw [Go.WideShapes.add_plain, Nat.zero_add]
          exact this
        case c3 =>
          intro u hu
          simp only [List.mem_cons, List.not_mem_nil, or_false] at hu
          rcases hu with rfl | rfl | rfl <;> rfl
        case c4 => unfold maxLen; omega
        case c5 => omega
        case c6 => have := hl.size; simp only [World.size_alloc]; omega
        intro v' w1 hown' hgrow _
        have ho := Lib.hid (show w1.ownsRow w.heap.size 55 3 v' (k + 1) (ucs (rs l (k + 1))) by rw [HX.out]; exact hown')
        have hl' := Lib.hid (((hl.alloc hl.size _).alloc (by have := hl.size; simp only [World.size_alloc]; omega) _).grown hgrow (by have := hl.size; simp only [World.size_alloc]; omega) (fun g hg => (hown.lt g hg).1))
        clear hown' hgrow hown hl c0 c1 c2
        go_wp2
        go_roundw
        case rel => exact ⟨k + 1, by omega, by go_num, ho.out, hl'.out⟩
        case measure => simp [intOf]; omega
      · have hkl : decide ((k : Int) < (l.length : Int)) = false := decide_eq_false (by omega)
        obtain rfl : x = u0 := by rw [← hx, List.getD_eq_getElem?_getD, List.getElem?_eq_none (by omega)]; rfl
        clear hx
        go_wp2_with (at_builtin; refine wpList_append_own _ rfl _ _ 57 rfl w.heap.size 55 i0 (.agg #[.int .u32 0, .int .u64 0, .int .u64 0]) 3 24 Try.underlying57 hi hz0 hz1 hz2 rfl (by decide) _ _ _ rfl ((hown.alloc _).alloc _) ⟨wr.heap.size + 1, 0, none⟩ 1 1 [.int .u32 0, .int .u64 0, .int .u64 0] rfl ?d1 ?d2 ?d3 ?d4 ?d5 ?d6 ?_)
        case d1 => rfl
        case d2 =>
          intro j u hu
          have := (Row.at (Row.new (wr.alloc (.cells #[.int .u32 0, .int .u64 0, .int .u64 0] 55)) 55 #[.int .u32 0, .int .u64 0, .int .u64 0]) (b' := wr.heap.size + 1) (by simp)).get (i := j) (v := u) (by simpa using hu)
          rw [Go.WideShapes.add_plain, Nat.zero_add]
          exact this
        case d3 =>
          intro u hu
          simp only [List.mem_cons, List.not_mem_nil, or_false] at hu
          rcases hu with rfl | rfl | rfl <;> rfl
        case d4 => unfold maxLen; omega
        case d5 => omega
        case d6 => have := hl.size; simp only [World.size_alloc]; omega
        intro v' w1 hown' hgrow _
        have ho := Lib.hid (show w1.ownsRow w.heap.size 55 3 v' (k + 1) (ucs (rs l (k + 1))) by rw [HX.out]; exact hown')
        have hl' := Lib.hid (((hl.alloc hl.size _).alloc (by have := hl.size; simp only [World.size_alloc]; omega) _).grown hgrow (by have := hl.size; simp only [World.size_alloc]; omega) (fun g hg => (hown.lt g hg).1))
        clear hown' hgrow hown hl
        go_wp2
        go_roundw
        case rel => exact ⟨k + 1, by omega, by go_num, ho.out, hl'.out⟩
        case measure => simp [intOf]; omega
    · obtain rfl : k = m := by omega
      have hkb : decide ((k : Int) < (k : Int)) = false := by simp
      go_wp2_with (at_builtin; refine wpList_append_own _ rfl _ _ 57 rfl w.heap.size 55 i0 (.agg #[.int .u32 0, .int .u64 0, .int .u64 0]) 3 24 Try.underlying57 hi hz0 hz1 hz2 rfl (by decide) _ _ _ rfl (hown.alloc _) ⟨wr.heap.size, 0, none⟩ 2 2 [.int .u32 77, .int .u64 77, .int .u64 77, .int .u32 78, .int .u64 78, .int .u64 78] rfl ?e1 ?e2 ?e3 ?e4 ?e5 ?e6 ?_)
      case e1 => rfl
      case e2 =>
        intro j u hu
        have := (Row.new wr 55 #[.int .u32 77, .int .u64 77, .int .u64 77, .int .u32 78, .int .u64 78, .int .u64 78]).get (i := j) (v := u) (by simpa using hu)
        rw [Go.WideShapes.add_plain, Nat.zero_add]
        exact this
      case e3 =>
        intro u hu
        simp only [List.mem_cons, List.not_mem_nil, or_false] at hu
        rcases hu with rfl | rfl | rfl | rfl | rfl | rfl <;> rfl
      case e4 => unfold maxLen; omega
      case e5 => omega
      case e6 => have := hl.size; simp only [World.size_alloc]; omega
      intro v' w1 hown' hgrow _
      obtain ⟨g, cp, rfl, hg, hle, -, hpre⟩ := pre_of_own hown' (by omega)
      have hl' := Lib.hid ((hl.alloc hl.size _).grown hgrow (by have := hl.size; simp only [World.size_alloc]; omega) (fun g hg => (hown.lt g hg).1))
      have HC := Lib.hid hpre
      clear hown' hgrow hown hpre hl
      have hlc : (k : Int) ≤ (cp : Int) := by omega
      go_wp2
      go_ret
      exact ⟨g, cp, rfl, hg, hle, HC.out, hl'.out⟩
theorem eq_upd (x y : U3) (W : World) : (binOp .eql 55 (.agg #[.int .u32 x.t, .int .u64 x.a, .int .u64 x.b]) (.agg #[.int .u32 y.t, .int .u64 y.a, .int .u64 y.b])).run Try.prog W = .ok (.bool (x.t == y.t && (x.a == y.a && x.b == y.b))) W := by
  rw [run_eql_struct]
  have u := Try.underlying55
  have u1 := Try.underlying34
  have u2 := Try.underlying53
  simp [go_sem, u, u1, u2]
  by_cases h1 : x.t = y.t
  · by_cases h2 : x.a = y.a
    · by_cases h3 : x.b = y.b
      · simp [h1, h2, h3]
      · simp [h1, h2, h3]
    · simp [h1, h2]
  · simp [h1]
theorem neq_upd (x y : U3) (W : World) : (binOp .neq 55 (.agg #[.int .u32 x.t, .int .u64 x.a, .int .u64 x.b]) (.agg #[.int .u32 y.t, .int .u64 y.a, .int .u64 y.b])).run Try.prog W = .ok (.bool (!(x.t == y.t && (x.a == y.a && x.b == y.b)))) W := by
  rw [run_neq_struct]
  have u := Try.underlying55
  have u1 := Try.underlying34
  have u2 := Try.underlying53
  simp [go_sem, u, u1, u2]
  by_cases h1 : x.t = y.t
  · by_cases h2 : x.a = y.a
    · by_cases h3 : x.b = y.b
      · simp [h1, h2, h3]
      · simp [h1, h2, h3]
    · simp [h1, h2]
  · simp [h1]
theorem eq_self (x : U3) (W : World) : (binOp .eql 55 (.agg #[.int .u32 x.t, .int .u64 x.a, .int .u64 x.b]) (.agg #[.int .u32 x.t, .int .u64 x.a, .int .u64 x.b])).run Try.prog W = .ok (.bool true) W := by
  have := eq_upd x x W
  simpa using this
theorem neq_self (x : U3) (W : World) : (binOp .neq 55 (.agg #[.int .u32 x.t, .int .u64 x.a, .int .u64 x.b]) (.agg #[.int .u32 x.t, .int .u64 x.a, .int .u64 x.b])).run Try.prog W = .ok (.bool false) W := by
  have := neq_upd x x W
  simpa using this
/-- Are the marks behind a list still there? -/
theorem marked (g m cap : Nat) (L : List U3) (hL : L.length = m) (hcap : m + 2 ≤ cap) (hm : m * 24 ≤ 140737488355328) (w : World) (h : Pre w g 55 (cap * 3) (ucs L ++ marks)) :
    Calls Try.prog 34 #[.slice (some ⟨g, 0, none⟩) m cap] w fun e w' => e = .returned (.bool true) ∧ Below w.heap.size w w' := by
  have h' : Pre w g 55 (cap * 3) (ucs (L ++ [u77, u78]) ++ []) := by rw [List.append_nil, ucs_append]; exact h
  obtain ⟨a0, a1, a2⟩ := Pre.upd h' (k := m) (x := u77) (by rw [List.getElem?_append_right (by omega)]; simp [hL])
  obtain ⟨b0, b1, b2⟩ := Pre.upd h' (k := m + 1) (x := u78) (by rw [List.getElem?_append_right (by omega)]; simp [hL])
  have hg := Pre.lt h
  have e7 := fun W => eq_self u77 W
  have e8 := fun W => eq_self u78 W
  unfold u77 at a0 a1 a2 e7
  unfold u78 at b0 b1 b2 e8
  dsimp only at a0 a1 a2 b0 b1 b2 e7 e8
  have hmc : (m : Int) + 2 ≤ (cap : Int) := by omega
  clear h h' hL
  go_enter Try.func34, Try.ntmps34
  go_wp2
  go_ret
  exact ⟨rfl, Below.refl _ _⟩
def RelSm (w : World) (m : Nat) (i : Value) (wr : World) : Prop := ∃ k : Nat, k ≤ m ∧ i = .int .i64 k ∧ Below w.heap.size w wr
/-- Two lists that are alike. -/
theorem samed (A B : Option Addr) (L : List U3) (ca cb : Nat) (hl : L.length * 24 ≤ 140737488355328) (w : World) (hA : Lay w w.heap.size A (ucs L)) (hB : Lay w w.heap.size B (ucs L)) :
    Calls Try.prog 35 #[.slice A L.length ca, .slice B L.length cb] w fun e w' => e = .returned (.bool true) ∧ Below w.heap.size w w' := by
  have HA := Lib.hid hA
  have HB := Lib.hid hB
  have hd : ((L.length : Int) != (L.length : Int)) = false := by simp
  clear hA hB
  go_enter Try.func35, Try.ntmps35
  go_wp2
  go_loopw [5] (fun i wr => RelSm w L.length i wr) (fun i _ => L.length - (intOf i).toNat)
  case atStart => exact ⟨0, Nat.zero_le _, rfl, Below.refl _ _⟩
  case round =>
    obtain ⟨k, hk, rfl, hb⟩ := hrel
    rcases Nat.lt_or_ge k L.length with h6 | h6
    · have hkb : decide ((k : Int) < (L.length : Int)) = true := decide_eq_true (by omega)
      obtain ⟨x, hx⟩ : ∃ x, L[k]? = some x := ⟨_, List.getElem?_eq_getElem h6⟩
      obtain ⟨b1, o1, rfl, hb1, c0, c1, c2⟩ := lay_upd (HA.out.below hb) hx
      obtain ⟨b2, o2, rfl, hb2, d0, d1, d2⟩ := lay_upd (HB.out.below hb) hx
      have he := fun W => neq_self x W
      have k0 : (0 : Int) ≤ (k : Int) := by omega
      have HBB := Lib.hid hb
      clear hx hb
      go_wp2
      go_quiet (fail)
      go_wp2
      go_roundw
      case rel => exact ⟨k + 1, by omega, by go_num, below_drewN HBB.out _⟩
      case measure => simp [intOf]; omega
    · obtain rfl : k = L.length := by omega
      have hkb : decide ((L.length : Int) < (L.length : Int)) = false := by simp
      go_wp2
      go_ret
      exact ⟨rfl, hb⟩
def u99 : U3 := ⟨99, 0, 0, by decide, by decide, by decide⟩
/-- A buffer full of 99s. -/
theorem untouched (g m cap capc : Nat) (rest : List Value) (hm : m * 24 ≤ 140737488355328) (w : World) (h : Pre w g 55 capc (ucs (List.replicate m u99) ++ rest)) :
    Calls Try.prog 36 #[.slice (some ⟨g, 0, none⟩) m cap] w fun e w' => e = .returned (.bool true) ∧ Below w.heap.size w w' := by
  have HP := Lib.hid h
  have hg := Pre.lt h
  clear h
  go_enter Try.func36, Try.ntmps36
  go_wp2
  go_loopw [3] (fun i wr => RelSm w m i wr) (fun i _ => m - (intOf i).toNat)
  case atStart => exact ⟨0, Nat.zero_le _, rfl, Below.refl _ _⟩
  case round =>
    obtain ⟨k, hk, rfl, hb⟩ := hrel
    rcases Nat.lt_or_ge k m with h6 | h6
    · have hkb : decide ((k : Int) < (m : Int)) = true := decide_eq_true (by omega)
      obtain ⟨c0, c1, c2⟩ := Pre.upd (HP.out.below hb hg) (k := k) (x := u99) (by rw [List.getElem?_replicate, if_pos h6])
      have he := fun W => neq_self u99 W
      unfold u99 at c0 c1 c2 he
      dsimp only at c0 c1 c2 he
      have hgl : g < wr.heap.size := Nat.lt_of_lt_of_le hg hb.size
      have HBB := Lib.hid hb
      clear hb
      go_wp2
      go_roundw
      case rel => exact ⟨k + 1, by omega, by go_num, HBB.out⟩
      case measure => simp [intOf]; omega
    · obtain rfl : k = m := by omega
      have hkb : decide ((k : Int) < (k : Int)) = false := by simp
      go_wp2
      go_ret
      exact ⟨rfl, hb⟩
end Go.Proofs.Ytepljdnhnnpdmaa.Shuf
