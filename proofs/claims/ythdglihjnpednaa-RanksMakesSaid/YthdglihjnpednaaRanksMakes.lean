/-
  RanksMakes: which vertex programs can be made, and which Errno comes else: by the number of vertices, the damping, the rounds, the kind. No condition.
-/
import Derived.Test.YthdglihjnpednaaRows
import Derived.Test.YthdglihjnpednaaK
import Derived.ShutString
import Derived.Outline
import Derived.WalkLawsBesides
import Derived.ChangeOld
import Derived.SizedLaws
set_option linter.unusedVariables false
set_option linter.unusedSimpArgs false
namespace Go.Proofs.Ythdglihjnpednaa.ranksMakes
open Go.ChangeShapes Go.WideShapes Go.ChangeAt Go.RowKit Ieee

/-! ### Float32: between 0 and 1 -/
theorem read_low (d : Nat) (h : d < 8388608) : single.read d = .number false d (-149) := by
  have hs : single.signWeight = 2147483648 := by decide
  have hb : single.binade = 8388608 := by decide
  have hl : single.leastPlace = -149 := by decide
  unfold Format.read
  rw [hs, hb, hl]
  have e1 : d / 2147483648 = 0 := by omega
  have e2 : d % 2147483648 = d := by omega
  simp only [e1, e2]
  rw [if_pos h]; rfl
theorem read_mid (d : Nat) (h0 : 8388608 ≤ d) (h : d < 2139095040) : single.read d = .number false (8388608 + d % 8388608) (-149 + (d / 8388608 - 1 : Nat)) := by
  have hs : single.signWeight = 2147483648 := by decide
  have hb : single.binade = 8388608 := by decide
  have hi : single.infRung = 2139095040 := by decide
  have hl : single.leastPlace = -149 := by decide
  unfold Format.read
  rw [hs, hb, hl, hi]
  have e1 : d / 2147483648 = 0 := by omega
  have e2 : d % 2147483648 = d := by omega
  simp only [e1, e2]
  rw [if_neg (by omega), if_pos h]; rfl
theorem read_neg (d : Nat) (h0 : 2147483648 ≤ d) (h : d < 4294967296) : (∃ m p, single.read d = .number true m p) ∨ single.read d = .infinity true ∨ ∃ f, single.read d = .nan true f := by
  have hs : single.signWeight = 2147483648 := by decide
  have e1 : d / 2147483648 = 1 := by omega
  unfold Format.read
  rw [hs, e1]
  simp only
  split
  · exact .inl ⟨_, _, rfl⟩
  · split
    · exact .inl ⟨_, _, rfl⟩
    · split
      · exact .inr (.inl rfl)
      · exact .inr (.inr ⟨_, rfl⟩)
theorem read_top (d : Nat) (h0 : 2139095040 ≤ d) (h : d < 2147483648) : single.read d = .infinity false ∨ ∃ f, single.read d = .nan false f := by
  have hs : single.signWeight = 2147483648 := by decide
  have hb : single.binade = 8388608 := by decide
  have hi : single.infRung = 2139095040 := by decide
  have e1 : d / 2147483648 = 0 := by omega
  have e2 : d % 2147483648 = d := by omega
  unfold Format.read
  rw [hs, hb, hi]
  simp only [e1, e2]
  rw [if_neg (by omega), if_neg (by omega)]
  split
  · exact .inl rfl
  · exact .inr ⟨_, rfl⟩
theorem read_zero : single.read 0 = .number false 0 (-149) := read_low 0 (by decide)
theorem read_one : single.read 1065353216 = .number false 8388608 (-23) := by
  rw [read_mid _ (by decide) (by decide)]; rfl
theorem damp (d : Nat) (h : d < 4294967296) :
    (((FloatKind.f32.format.order d 0 == some .gt) && (FloatKind.f32.format.order d 1065353216 == some .lt)) = decide (0 < d ∧ d < 1065353216)) := by
  show (((single.read d).order (single.read 0) == some .gt) && ((single.read d).order (single.read 1065353216) == some .lt)) = _
  rw [read_zero, read_one]
  rcases Nat.lt_or_ge d 8388608 with h1 | h1
  · rw [read_low d h1]
    show ((some (compare (signed false d 0) (signed false 0 0)) == some Ordering.gt) && (some (compare (signed false d 0) (signed false 8388608 126)) == some .lt)) = _
    have e1 : signed false 0 0 = 0 := rfl
    have e2 : signed false d 0 = (d : Int) := by simp [signed]
    have e3 : signed false 8388608 126 = (8388608 * 2 ^ 126 : Nat) := by decide
    rw [e1, e2, e3]
    have : (d : Int) < (8388608 * 2 ^ 126 : Nat) := by omega
    have hl : compare (d : Int) (8388608 * 2 ^ 126 : Nat) = .lt := by rw [Int.compare_eq_lt]; exact this
    rw [hl]
    by_cases hz : d = 0
    · subst hz; rfl
    · have : compare (d : Int) 0 = .gt := by rw [Int.compare_eq_gt]; omega
      rw [this]; simp; omega
  · rcases Nat.lt_or_ge d 2139095040 with h2 | h2
    · rw [read_mid d h1 h2]
      obtain ⟨e, he⟩ : ∃ e, d / 8388608 - 1 = e := ⟨_, rfl⟩
      obtain ⟨m, hm⟩ : ∃ m, d % 8388608 = m := ⟨_, rfl⟩
      rw [he, hm]
      have hpos : 0 < (8388608 + m) * 2 ^ e := Nat.mul_pos (by omega) (Nat.two_pow_pos e)
      have o1 : (Datum.number false (8388608 + m) (-149 + (e : Nat))).order (.number false 0 (-149)) = some .gt := by
        show some (compare (signed false (8388608 + m) (-149 + (e : Int) - min (-149 + (e : Int)) (-149)).toNat) (signed false 0 _)) = _
        have a1 : (-149 + (e : Int) - min (-149 + (e : Int)) (-149)).toNat = e := by omega
        rw [a1]
        have a2 : ∀ x, signed false 0 x = 0 := by intro x; simp [signed]
        rw [a2]
        have a3 : signed false (8388608 + m) e = (((8388608 + m) * 2 ^ e : Nat) : Int) := by simp [signed, Nat.shiftLeft_eq]
        rw [a3]
        congr 1
        rw [Int.compare_eq_gt]
        omega
      rw [o1]
      simp only [BEq.rfl, Bool.true_and]
      show (some (compare (signed false (8388608 + m) (-149 + (e : Int) - min (-149 + (e : Int)) (-23)).toNat) (signed false 8388608 (-23 - min (-149 + (e : Int)) (-23)).toNat)) == some Ordering.lt) = _
      rcases Nat.lt_or_ge e 126 with h3 | h3
      · have a1 : (-149 + (e : Int) - min (-149 + (e : Int)) (-23)).toNat = 0 := by omega
        have a2 : (-23 - min (-149 + (e : Int)) (-23)).toNat = 126 - e := by omega
        rw [a1, a2]
        have a3 : signed false (8388608 + m) 0 = ((8388608 + m : Nat) : Int) := by simp [signed]
        have a4 : signed false 8388608 (126 - e) = ((8388608 * 2 ^ (126 - e) : Nat) : Int) := by simp [signed, Nat.shiftLeft_eq]
        rw [a3, a4]
        have a5 : 2 ^ 1 ≤ 2 ^ (126 - e) := Nat.pow_le_pow_right (by decide) (by omega)
        have a6 : compare ((8388608 + m : Nat) : Int) ((8388608 * 2 ^ (126 - e) : Nat) : Int) = .lt := by
          rw [Int.compare_eq_lt]; omega
        rw [a6]; simp; omega
      · have a1 : (-149 + (e : Int) - min (-149 + (e : Int)) (-23)).toNat = e - 126 := by omega
        have a2 : (-23 - min (-149 + (e : Int)) (-23)).toNat = 0 := by omega
        rw [a1, a2]
        have a4 : signed false 8388608 0 = (8388608 : Int) := by decide
        have a3 : signed false (8388608 + m) (e - 126) = (((8388608 + m) * 2 ^ (e - 126) : Nat) : Int) := by simp [signed, Nat.shiftLeft_eq]
        rw [a3, a4]
        have a5 : 1 ≤ 2 ^ (e - 126) := Nat.one_le_two_pow
        have a7 : (8388608 + m) * 1 ≤ (8388608 + m) * 2 ^ (e - 126) := Nat.mul_le_mul_left _ a5
        have a6 : compare (((8388608 + m) * 2 ^ (e - 126) : Nat) : Int) (8388608 : Int) ≠ .lt := by
          rw [Ne, Int.compare_eq_lt]; omega
        have a8 : decide (0 < d ∧ d < 1065353216) = false := by simp; omega
        rw [a8]
        generalize compare (((8388608 + m) * 2 ^ (e - 126) : Nat) : Int) (8388608 : Int) = q at a6 ⊢
        cases q
        · exact absurd rfl a6
        · rfl
        · rfl
    · rcases Nat.lt_or_ge d 2147483648 with h3 | h3
      · have : decide (0 < d ∧ d < 1065353216) = false := by simp; omega
        rw [this]
        rcases read_top d h2 h3 with h4 | ⟨f, h4⟩ <;> rw [h4] <;> rfl
      · have : decide (0 < d ∧ d < 1065353216) = false := by simp; omega
        rw [this]
        rcases read_neg d h3 h with ⟨m, p, h4⟩ | h4 | ⟨f, h4⟩ <;> rw [h4]
        · have a2 : ∀ x, signed false 0 x = 0 := by intro x; simp [signed]
          have : (Datum.number true m p).order (.number false 0 (-149)) ≠ some .gt := by
            show some (compare (signed true m (p - min p (-149)).toNat) (signed false 0 _)) ≠ _
            rw [a2]
            intro h5
            have h6 := Option.some.inj h5
            rw [Int.compare_eq_gt] at h6
            unfold signed at h6
            rw [if_pos rfl] at h6
            generalize m <<< (p - min p (-149)).toNat = q at h6
            omega
          simp [this]
        · rfl
        · rfl
/-- Float arithmetic: some bits; or some bits that the tape gives. -/
theorem arith {P : Program} (op : BinOp) (h : op = .sub ∨ op = .quo) (t : TypeId) (x y : Nat) :
    (∃ r, ∀ W, (binOp op t (.float .f32 x) (.float .f32 y)).run P W = .ok (.float .f32 r) W) ∨ (∃ R : World → Nat, ∀ W, (binOp op t (.float .f32 x) (.float .f32 y)).run P W = .ok (.float .f32 (R W)) W.drew) := by
  rcases hf : floatBits op .f32 x y with _ | r
  · right
    have : ∀ W, ∃ r, (binOp op t (.float .f32 x) (.float .f32 y)).run P W = .ok (.float .f32 r) W.drew := by
      intro W
      rcases h with rfl | rfl <;> (simp only [floatBits] at hf; simp [binOp, Op.floatArith, hf, Question.forced])
    exact ⟨fun W => (this W).choose, fun W => (this W).choose_spec⟩
  · exact .inl ⟨r, fun W => run_float_arith W op t .f32 x y r hf⟩

def Made (w : World) (c : Int) (e : Ending) (w' : World) : Prop := ∃ o : Option Addr, e = .returned (.tuple #[.pointer o, .int .i64 c]) ∧ o.isNone = decide (c ≠ 0) ∧ Below w.heap.size w w'

theorem sizedNo (n r : Int) (hn : 0 ≤ n) (h : n < 1 ∨ (¬ n < 1 ∧ 2147483647 < n) ∨ (¬ n < 1 ∧ ¬ 2147483647 < n ∧ r < 1) ∨ (¬ n < 1 ∧ ¬ 2147483647 < n ∧ ¬ r < 1 ∧ 65536 < r)) (w : World) :
    Calls Try.prog 51 #[.int .u32 n, .int .i64 r] w fun e w' => e = .returned (.bool false) ∧ w' = w := by
  have b : n < 1 ∨ (¬ n < 1 ∧ ¬ n ≤ 2147483647) ∨ (¬ n < 1 ∧ n ≤ 2147483647 ∧ r < 1) ∨ (¬ n < 1 ∧ n ≤ 2147483647 ∧ ¬ r < 1 ∧ ¬ r ≤ 65536) := by omega
  clear h
  rcases b with a1 | ⟨a1, a2⟩ | ⟨a1, a2, a3⟩ | ⟨a1, a2, a3, a4⟩
  all_goals
    go_enter Try.func51, Try.ntmps51
    go_wp2
    go_ret
    exact ⟨rfl, rfl⟩
theorem sizedYes (n r : Int) (h1 : 1 ≤ n) (h2 : n ≤ 2147483647) (h3 : 1 ≤ r) (h4 : r ≤ 65536) (w : World) :
    Calls Try.prog 51 #[.int .u32 n, .int .i64 r] w fun e w' => e = .returned (.bool true) ∧ w' = w := by
  go_enter Try.func51, Try.ntmps51
  go_wp2
  go_ret
  exact ⟨rfl, rfl⟩

set_option maxRecDepth 100000 in
theorem pageNo (n d r : Int) (hn : 0 ≤ n) (h : n < 1 ∨ (¬ n < 1 ∧ 2147483647 < n) ∨ (¬ n < 1 ∧ ¬ 2147483647 < n ∧ r < 1) ∨ (¬ n < 1 ∧ ¬ 2147483647 < n ∧ ¬ r < 1 ∧ 65536 < r)) (w : World) :
    Calls Try.prog 25 #[.int .u32 n, .int .u32 d, .int .i64 r] w (Made w 2) := by
  have H := Lib.hid h
  clear h
  go_enter Try.func25, Try.ntmps25
  go_wp2_with fail
  refine (sizedNo n r hn (by have := H.out; omega) _).mono ?_
  rintro e w1 ⟨rfl, rfl⟩
  go_wp2
  go_ret2
  exact ⟨none, rfl, rfl, Below.refl _ _⟩
set_option maxRecDepth 100000 in
theorem float (d : Int) (w : World) : Calls Try.prog 52 #[.int .u32 d] w fun e w' => e = .returned (.float .f32 d.toNat) ∧ w' = w := by
  have hx : ∀ W, (callFunc 61 #[.int .u32 d]).run Try.prog W = .ok (.value (.float .f32 d.toNat)) W := fun W => by
    rw [run_callFunc_extern (P := Try.prog) Try.func61 (by kernel_rfl) (by kernel_rfl) (by kernel_rfl) (e := Extern.MathFloatBits.float32frombits) (by kernel_rfl)]; rfl
  go_enter Try.func52, Try.ntmps52
  go_wp2
  go_ret
  exact ⟨rfl, rfl⟩
set_option maxRecDepth 100000 in
theorem pageDamp (n d r : Int) (h1 : 1 ≤ n) (h2 : n ≤ 2147483647) (h3 : 1 ≤ r) (h4 : r ≤ 65536) (hd : 0 ≤ d ∧ d ≤ 4294967295) (hb : d = 0 ∨ 1065353216 ≤ d) (w : World) :
    Calls Try.prog 25 #[.int .u32 n, .int .u32 d, .int .i64 r] w (Made w 150) := by
  have hD := damp d.toNat (by omega)
  have hf : decide (0 < d.toNat ∧ d.toNat < 1065353216) = false := by simp; omega
  rw [hf] at hD
  obtain ⟨x, hx⟩ : ∃ x, x = d.toNat := ⟨_, rfl⟩
  rw [← hx] at hD
  have hFl := fun W => float d W
  rw [← hx] at hFl
  clear hx hf
  rcases hA : (FloatKind.f32.format.order x 0 == some Ordering.gt) with _ | _
  · clear hD
    go_enter Try.func25, Try.ntmps25
    go_wp2_with fail
    refine (sizedYes n r h1 h2 h3 h4 _).mono ?_
    rintro e w1 ⟨rfl, rfl⟩
    go_wp2_with fail
    refine (hFl _).mono ?_
    rintro e w1 ⟨rfl, rfl⟩
    go_wp2
    go_ret2
    exact ⟨none, rfl, rfl, Below.refl _ _⟩
  · rw [hA, Bool.true_and] at hD
    go_enter Try.func25, Try.ntmps25
    go_wp2_with fail
    refine (sizedYes n r h1 h2 h3 h4 _).mono ?_
    rintro e w1 ⟨rfl, rfl⟩
    go_wp2_with fail
    refine (hFl _).mono ?_
    rintro e w1 ⟨rfl, rfl⟩
    go_wp2
    go_ret2
    exact ⟨none, rfl, rfl, Below.refl _ _⟩
set_option maxRecDepth 100000 in
theorem pageYes (n d r : Int) (h1 : 1 ≤ n) (h2 : n ≤ 2147483647) (h3 : 1 ≤ r) (h4 : r ≤ 65536) (hb : 0 < d ∧ d < 1065353216) (w : World) :
    Calls Try.prog 25 #[.int .u32 n, .int .u32 d, .int .i64 r] w (Made w 0) := by
  have hD := damp d.toNat (by omega)
  have hf : decide (0 < d.toNat ∧ d.toNat < 1065353216) = true := by simp; omega
  rw [hf, Bool.and_eq_true] at hD
  obtain ⟨x, hx⟩ : ∃ x, x = d.toNat := ⟨_, rfl⟩
  rw [← hx] at hD
  have hFl := fun W => float d W
  rw [← hx] at hFl
  clear hx hf
  obtain ⟨hA, hB⟩ := hD
  obtain ⟨c, hc⟩ : ∃ c, c = floatOfInt .f32 n := ⟨_, rfl⟩
  have hcv : ∀ W, (convert 31 97 (.int .u32 n)).run Try.prog W = .ok (.float .f32 c) W := fun W => by
    rw [hc]; exact run_convert_int_float W _ _ _ _ _ (by kernel_rfl) Try.underlying97
  clear hc
  have hst : ∀ (a : Addr) (b : Nat) (m : Mode) (W : World), (store a (.float .f32 b) m).run Try.prog W = stored Try.prog W a (.float .f32 b) m := fun a b m W => run_store Try.prog W a _ m rfl
  have Q1 := arith (P := Try.prog) .sub (.inl rfl) 97 1065353216 x
  have Q2 := fun s => arith (P := Try.prog) .quo (.inr rfl) 97 s c
  rcases Q1 with ⟨s, hS⟩ | ⟨s, hS⟩
  · rcases Q2 s with ⟨q, hQ⟩ | ⟨q, hQ⟩
    all_goals
      clear Q2
      go_enter Try.func25, Try.ntmps25
      go_wp2_with fail
      refine (sizedYes n r h1 h2 h3 h4 _).mono ?_
      rintro e w1 ⟨rfl, rfl⟩
      go_wp2_with fail
      refine (hFl _).mono ?_
      rintro e w1 ⟨rfl, rfl⟩
      go_wp2
      go_ret2
      refine ⟨some _, rfl, rfl, ?_⟩
      repeat (first | exact Below.refl _ _ | refine Below.drew ?_ | refine Below.setCell ?_ (by first | omega | (simp <;> omega)) _ | refine Below.alloc ?_ (by first | omega | (simp <;> omega)) _)
  · rcases Q2 (s (w.alloc (Obj.cells #[Value.float FloatKind.f32 x, Value.float FloatKind.f32 c, Value.float FloatKind.f32 0, Value.int IntKind.i64 r] 105))) with ⟨q, hQ⟩ | ⟨q, hQ⟩
    all_goals
      clear Q2
      go_enter Try.func25, Try.ntmps25
      go_wp2_with fail
      refine (sizedYes n r h1 h2 h3 h4 _).mono ?_
      rintro e w1 ⟨rfl, rfl⟩
      go_wp2_with fail
      refine (hFl _).mono ?_
      rintro e w1 ⟨rfl, rfl⟩
      go_wp2
      go_ret2
      refine ⟨some _, rfl, rfl, ?_⟩
      repeat (first | exact Below.refl _ _ | refine Below.drew ?_ | refine Below.setCell ?_ (by first | omega | (simp <;> omega)) _ | refine Below.alloc ?_ (by first | omega | (simp <;> omega)) _)

theorem condNo (n s : Int) (hn : 0 ≤ n) (h : n < 1 ∨ 2147483647 < n) (w : World) : Calls Try.prog 28 #[.int .u32 n, .int .u64 s] w (Made w 2) := by
  have H := Lib.hid h
  clear h
  go_enter Try.func28, Try.ntmps28
  go_wp2_with fail
  refine (sizedNo n 1 hn (by have := H.out; omega) _).mono ?_
  rintro e w1 ⟨rfl, rfl⟩
  go_wp2
  go_ret2
  exact ⟨none, rfl, rfl, Below.refl _ _⟩
theorem condYes (n s : Int) (h1 : 1 ≤ n) (h2 : n ≤ 2147483647) (w : World) : Calls Try.prog 28 #[.int .u32 n, .int .u64 s] w (Made w 0) := by
  go_enter Try.func28, Try.ntmps28
  go_wp2_with fail
  refine (sizedYes n 1 h1 h2 (by omega) (by omega) _).mono ?_
  rintro e w1 ⟨rfl, rfl⟩
  go_wp2
  go_ret2
  refine ⟨some _, rfl, rfl, ?_⟩
  repeat (first | exact Below.refl _ _ | refine Below.drew ?_ | refine Below.alloc ?_ (by first | omega | (simp <;> omega)) _)
theorem anfNo (n r s : Int) (hn : 0 ≤ n) (h : n < 1 ∨ 2147483647 < n ∨ r < 1 ∨ 65536 < r) (w : World) : Calls Try.prog 27 #[.int .u32 n, .int .i64 r, .int .u64 s] w (Made w 2) := by
  have H := Lib.hid h
  clear h
  go_enter Try.func27, Try.ntmps27
  go_wp2_with fail
  refine (sizedNo n r hn (by have := H.out; omega) _).mono ?_
  rintro e w1 ⟨rfl, rfl⟩
  go_wp2
  go_ret2
  exact ⟨none, rfl, rfl, Below.refl _ _⟩
theorem anfYes (n r s : Int) (h1 : 1 ≤ n) (h2 : n ≤ 2147483647) (h3 : 1 ≤ r) (h4 : r ≤ 65536) (w : World) : Calls Try.prog 27 #[.int .u32 n, .int .i64 r, .int .u64 s] w (Made w 0) := by
  go_enter Try.func27, Try.ntmps27
  go_wp2_with fail
  refine (sizedYes n r h1 h2 h3 h4 _).mono ?_
  rintro e w1 ⟨rfl, rfl⟩
  go_wp2
  go_ret2
  refine ⟨some _, rfl, rfl, ?_⟩
  repeat (first | exact Below.refl _ _ | refine Below.drew ?_ | refine Below.alloc ?_ (by first | omega | (simp <;> omega)) _)
theorem spmvBad (n k s : Int) (hn : 0 ≤ n) (h : n < 1 ∨ 2147483647 < n) (w : World) : Calls Try.prog 29 #[.int .u32 n, .int .i64 k, .int .u64 s] w (Made w 2) := by
  have H := Lib.hid h
  clear h
  go_enter Try.func29, Try.ntmps29
  go_wp2_with fail
  refine (sizedNo n 1 hn (by have := H.out; omega) _).mono ?_
  rintro e w1 ⟨rfl, rfl⟩
  go_wp2
  go_ret2
  exact ⟨none, rfl, rfl, Below.refl _ _⟩
theorem spmvNo (n k s : Int) (h1 : 1 ≤ n) (h2 : n ≤ 2147483647) (h : k < 1 ∨ (¬ k < 1 ∧ 3 < k)) (w : World) : Calls Try.prog 29 #[.int .u32 n, .int .i64 k, .int .u64 s] w (Made w 2) := by
  rcases h with h | ⟨h, h'⟩
  all_goals
    go_enter Try.func29, Try.ntmps29
    go_wp2_with fail
    refine (sizedYes n 1 h1 h2 (by omega) (by omega) _).mono ?_
    rintro e w1 ⟨rfl, rfl⟩
    go_wp2
    go_ret2
    exact ⟨none, rfl, rfl, Below.refl _ _⟩
theorem spmvYes (n k s : Int) (h1 : 1 ≤ n) (h2 : n ≤ 2147483647) (h3 : 1 ≤ k) (h4 : k ≤ 3) (w : World) : Calls Try.prog 29 #[.int .u32 n, .int .i64 k, .int .u64 s] w (Made w 0) := by
  have a3 : ¬ k < 1 := by omega
  have a4 : ¬ 3 < k := by omega
  go_enter Try.func29, Try.ntmps29
  go_wp2_with fail
  refine (sizedYes n 1 h1 h2 (by omega) (by omega) _).mono ?_
  rintro e w1 ⟨rfl, rfl⟩
  go_wp2
  go_ret2
  refine ⟨some _, rfl, rfl, ?_⟩
  repeat (first | exact Below.refl _ _ | refine Below.drew ?_ | refine Below.alloc ?_ (by first | omega | (simp <;> omega)) _)

theorem dampIs (d : Int) (hd : 0 ≤ d ∧ d ≤ 4294967295) (w : World) : Calls Try.prog 26 #[.int .u32 d] w fun e w' => e = .returned (.bool (decide (0 < d ∧ d < 1065353216))) ∧ w' = w := by
  rcases Int.lt_or_le 0 d with a1 | a1
  · rcases Int.lt_or_le d 1065353216 with a2 | a2
    · have e : decide (0 < d ∧ d < 1065353216) = true := by simp; omega
      rw [e]
      clear e
      go_enter Try.func26, Try.ntmps26
      go_wp2
      go_ret
      exact ⟨rfl, rfl⟩
    · have e : decide (0 < d ∧ d < 1065353216) = false := by simp; omega
      rw [e]
      clear e
      have a3 : ¬ d < 1065353216 := by omega
      go_enter Try.func26, Try.ntmps26
      go_wp2
      go_ret
      refine ⟨?_, rfl⟩
      first
        | rfl
        | (show Ending.returned (Value.bool (decide (d < 1065353216))) = _
           have g : decide (d < 1065353216) = false := by simp; omega
           rw [g])
  · have e : decide (0 < d ∧ d < 1065353216) = false := by simp; omega
    rw [e]
    clear e
    have a3 : ¬ 0 < d := by omega
    go_enter Try.func26, Try.ntmps26
    go_wp2
    go_ret
    exact ⟨rfl, rfl⟩

/-! ### the law: fourteen ways -/
set_option maxRecDepth 100000 in
set_option maxHeartbeats 8000000 in
theorem law (n d r k cp ca cc cm : Int) (b : Bool) (hn : 0 ≤ n ∧ n ≤ 4294967295) (hd : 0 ≤ d ∧ d ≤ 4294967295)
    (hp : ∀ w, Calls Try.prog 25 #[.int .u32 n, .int .u32 d, .int .i64 r] w (Made w cp))
    (ha : ∀ w, Calls Try.prog 27 #[.int .u32 n, .int .i64 r, .int .u64 1] w (Made w ca))
    (hc : ∀ w, Calls Try.prog 28 #[.int .u32 n, .int .u64 1] w (Made w cc))
    (hm : ∀ w, Calls Try.prog 29 #[.int .u32 n, .int .i64 k, .int .u64 1] w (Made w cm))
    (hq : ∀ w, Calls Try.prog 26 #[.int .u32 d] w fun e w' => e = .returned (.bool b) ∧ w' = w)
    (h : (n < 1 ∧ cp = 2 ∧ ca = 2 ∧ cc = 2 ∧ cm = 2) ∨ (¬ n < 1 ∧ 2147483647 < n ∧ cp = 2 ∧ ca = 2 ∧ cc = 2 ∧ cm = 2) ∨
      (¬ n < 1 ∧ ¬ 2147483647 < n ∧ ((¬ 1 ≤ r ∧ cp = 2 ∧ ca = 2 ∧ cc = 0) ∨ (1 ≤ r ∧ ¬ r ≤ 65536 ∧ cp = 2 ∧ ca = 2 ∧ cc = 0) ∨
        (1 ≤ r ∧ r ≤ 65536 ∧ b = false ∧ cp = 150 ∧ ca = 0 ∧ cc = 0) ∨ (1 ≤ r ∧ r ≤ 65536 ∧ b = true ∧ cp = 0 ∧ ca = 0 ∧ cc = 0)) ∧
        ((k < 1 ∧ cm = 2) ∨ (¬ k < 1 ∧ 3 < k ∧ cm = 2) ∨ (¬ k < 1 ∧ ¬ 3 < k ∧ cm = 0)))) (w : World) :
    Calls Try.prog 9 #[.int .u32 n, .int .u32 d, .int .i64 r, .int .i64 k] w fun e w' => e = .returned (.bool true) ∧ Below w.heap.size w w' := by
  rcases h with ⟨n1, rfl, rfl, rfl, rfl⟩ | ⟨n1, n2, rfl, rfl, rfl, rfl⟩ | ⟨n1, n2, ⟨r1, rfl, rfl, rfl⟩ | ⟨r1, r2, rfl, rfl, rfl⟩ | ⟨r1, r2, rfl, rfl, rfl, rfl⟩ | ⟨r1, r2, rfl, rfl, rfl, rfl⟩, ⟨k1, rfl⟩ | ⟨k1, k2, rfl⟩ | ⟨k1, k2, rfl⟩⟩
  all_goals
    go_enter Try.func9, Try.ntmps9
    go_wp2_with (first
      | (go_at_call 25; refine (hp _).mono ?_; rintro e w1 ⟨o1, rfl, ho1, hw1⟩; rcases o1 with _ | a1 <;> simp at ho1)
      | (go_at_call 27; refine (ha _).mono ?_; rintro e w2 ⟨o2, rfl, ho2, hw2⟩; rcases o2 with _ | a2 <;> simp at ho2)
      | (go_at_call 28; refine (hc _).mono ?_; rintro e w3 ⟨o3, rfl, ho3, hw3⟩; rcases o3 with _ | a3 <;> simp at ho3)
      | (go_at_call 29; refine (hm _).mono ?_; rintro e w4 ⟨o4, rfl, ho4, hw4⟩; rcases o4 with _ | a4 <;> simp at ho4)
      | (go_at_call 26; refine (hq _).mono ?_; rintro e w7 ⟨rfl, rfl⟩)
      | go_in)
    go_ret
    refine ⟨?_, ((hw1.trans (hw2.mono hw1.size)).trans (hw3.mono (Nat.le_trans hw1.size hw2.size))).trans (hw4.mono (Nat.le_trans hw1.size (Nat.le_trans hw2.size hw3.size)))⟩
    first
      | rfl
      | (show Ending.returned (Value.bool (!decide (k < 1) && !decide (3 < k))) = _
         have g1 : decide (k < 1) = false := by simp; omega
         have g2 : decide (3 < k) = false := by simp; omega
         rw [g1, g2]
         rfl)

theorem walk (n d r k : Int) (hn : 0 ≤ n ∧ n ≤ 4294967295) (hd : 0 ≤ d ∧ d ≤ 4294967295) (w : World) :
    Calls Try.prog 9 #[.int .u32 n, .int .u32 d, .int .i64 r, .int .i64 k] w fun e w' => e = .returned (.bool true) ∧ Below w.heap.size w w' := by
  have hq := dampIs d hd
  by_cases hb : n < 1
  · exact law n d r k 2 2 2 2 _ hn hd (pageNo n d r hn.1 (by omega)) (anfNo n r 1 hn.1 (by omega)) (condNo n 1 hn.1 (by omega)) (spmvBad n k 1 hn.1 (by omega)) hq (.inl ⟨hb, rfl, rfl, rfl, rfl⟩) w
  by_cases hb' : 2147483647 < n
  · exact law n d r k 2 2 2 2 _ hn hd (pageNo n d r hn.1 (by omega)) (anfNo n r 1 hn.1 (by omega)) (condNo n 1 hn.1 (by omega)) (spmvBad n k 1 hn.1 (by omega)) hq (.inr (.inl ⟨hb, hb', rfl, rfl, rfl, rfl⟩)) w
  have hm : ∃ cm, (∀ w, Calls Try.prog 29 #[.int .u32 n, .int .i64 k, .int .u64 1] w (Made w cm)) ∧ ((k < 1 ∧ cm = 2) ∨ (¬ k < 1 ∧ 3 < k ∧ cm = 2) ∨ (¬ k < 1 ∧ ¬ 3 < k ∧ cm = 0)) := by
    by_cases hk : k < 1 ∨ 3 < k
    · exact ⟨2, spmvNo n k 1 (by omega) (by omega) (by omega), by omega⟩
    · exact ⟨0, spmvYes n k 1 (by omega) (by omega) (by omega) (by omega), by omega⟩
  obtain ⟨cm, hm, hcm⟩ := hm
  have hcond := condYes n 1 (by omega) (by omega)
  by_cases hr : r < 1
  · exact law n d r k 2 2 0 cm _ hn hd (pageNo n d r hn.1 (by omega)) (anfNo n r 1 hn.1 (by omega)) hcond hm hq (.inr (.inr ⟨hb, hb', .inl ⟨by omega, rfl, rfl, rfl⟩, hcm⟩)) w
  by_cases hr' : 65536 < r
  · exact law n d r k 2 2 0 cm _ hn hd (pageNo n d r hn.1 (by omega)) (anfNo n r 1 hn.1 (by omega)) hcond hm hq (.inr (.inr ⟨hb, hb', .inr (.inl ⟨by omega, by omega, rfl, rfl, rfl⟩), hcm⟩)) w
  have hanf := anfYes n r 1 (by omega) (by omega) (by omega) (by omega)
  by_cases hdd : d = 0 ∨ 1065353216 ≤ d
  · have e : decide (0 < d ∧ d < 1065353216) = false := by simp; omega
    exact law n d r k 150 0 0 cm _ hn hd (pageDamp n d r (by omega) (by omega) (by omega) (by omega) hd hdd) hanf hcond hm hq (.inr (.inr ⟨hb, hb', .inr (.inr (.inl ⟨by omega, by omega, e, rfl, rfl, rfl⟩)), hcm⟩)) w
  · have e : decide (0 < d ∧ d < 1065353216) = true := by simp; omega
    exact law n d r k 0 0 0 cm _ hn hd (pageYes n d r (by omega) (by omega) (by omega) (by omega) (by omega)) hanf hcond hm hq (.inr (.inr ⟨hb, hb', .inr (.inr (.inr ⟨by omega, by omega, e, rfl, rfl, rfl⟩)), hcm⟩)) w

theorem own : ownKnob Try.prog.godebug = none := by kernel_rfl
set_option maxRecDepth 100000 in
theorem lifted (os : Os) (started : os.Started) (H : Type) (enc : TypeId × Value → H) :
    ReturnsInHanded {} Try.checked os 9 .any (Rows.ranksMakesSpec.pre6 enc Try.prog Try.f9 Rows.ranksMakesRow.domain false) (Rows.ranksMakesSpec.post enc Try.prog Try.f9 false true false false) := by
  refine returnsInHanded_of_change_sized (C := Try.checked) own started (by kernel_rfl) Try.func9
    (ChangeSpec.witness6 (enc := enc) (C := Try.checked) false ⟨#[], #[.int .u32 0, .int .u32 0, .int .i64 0, .int .i64 0], []⟩ 8 (by kernel_rfl) (by kernel_rfl) (by kernel_rfl) (by kernel_rfl)) ?_
  intro W base args ds gs before hval0 hW hcnd hsz0 _
  have hsz : (DataW.weightsEach Try.prog (Try.f9.params.toList ++ Rows.ranksMakesSpec.plain.varTypes Try.prog) (ds ++ gs)).all (· ≤ reachBytes) = true := hsz0
  have hval : ∀ (j : Nat) t v, Try.f9.params[j]? = some t → args[j]? = some v → Value.okWide Try.prog W .any base t v := hval0
  have hW' := hW
  obtain ⟨p, q, hA0, hV, rfl, hfz, hnd⟩ := hW
  have hA : DataW.TrodAll enc Try.prog W 0 (fun _ => true) true Try.f9.params.toList args.toList ds p := hA0
  rw [Try.params9] at hA hval hsz
  obtain ⟨v0, vs0, d0, ds0, p0, q0, hargs, rfl, rfl, h0, r0⟩ := trodAll_cons hA
  obtain ⟨v1, vs1, d1, ds1, p1, q1, rfl, rfl, rfl, h1, r1⟩ := trodAll_cons r0
  obtain ⟨v2, vs2, d2, ds2, p2, q2, rfl, rfl, rfl, h2, r2⟩ := trodAll_cons r1
  obtain ⟨v3, vs3, d3, ds3, p3, q3, rfl, rfl, rfl, h3, r3⟩ := trodAll_cons r2
  obtain ⟨rfl, rfl, rfl⟩ := trodAll_nil r3
  obtain rfl : args = #[v0, v1, v2, v3] := by cases args; simp_all
  obtain ⟨rfl, rfl⟩ := trodVars_none hV
  obtain ⟨a0, rfl, rfl, rfl, w0⟩ := open_int Try.underlying31 (hval 0 31 v0 rfl rfl) h0
  obtain ⟨a1, rfl, rfl, rfl, w1⟩ := open_int Try.underlying31 (hval 1 31 v1 rfl rfl) h1
  obtain ⟨a2, rfl, rfl, rfl, w2⟩ := open_int Try.underlying3 (hval 2 3 v2 rfl rfl) h2
  obtain ⟨a3, rfl, rfl, rfl, w3⟩ := open_int Try.underlying3 (hval 3 3 v3 rfl rfl) h3
  refine (walk _ _ _ _ (bounds_u32 w0) (bounds_u32 w1) W).mono fun e W' ⟨he, bel⟩ => ?_
  subst he
  exact ⟨_, rfl, _, _, _, [], _, [], hW', trodAll_mk1 (shut_bool Try.underlying4 _), (trodAll_cons_mk (shut_int Try.underlying31 w0) (trodAll_cons_mk (shut_int Try.underlying31 w1) (trodAll_cons_mk (shut_int Try.underlying3 w2) (trodAll_cons_mk (shut_int Try.underlying3 w3) trodAll_mk0)))), rfl, bel.frame _, fun h => by cases h⟩
theorem over : Rows.ranksMakesRow.holds Try.pinned (OpenSpec.ofChange Rows.ranksMakesSpec) :=
  OpenClaim.holds_of_wide 9 Try.f9 rfl rfl rfl rfl rfl rfl rfl ⟨rfl, rfl, rfl, rfl, rfl⟩ rfl rfl rfl rfl rfl (by kernel_rfl) Try.func9 (by kernel_rfl)
    (of_decide_eq_true (by kernel_rfl)) (by unfold Func.isWrapper; first | (rw [if_pos (by decide +kernel)]; kernel_rfl) | (rw [if_neg (by decide +kernel)]; exact ⟨rfl, rfl⟩))
    (fun os started H enc _ => lifted os started H enc)
theorem proved : Rows.RanksMakesSaid := over
#print axioms proved
end Go.Proofs.Ythdglihjnpednaa.ranksMakes
