/-
  Reading a sum's text: TrimLeft at the ten digits, cut, sign, exponent, decimal, each told by a plain function of lists of bytes. No condition.
-/
import Derived.Test.YtbbldcbilnkkdaaDoorShelf3
import Derived.Test.YtbbldcbilnkkdaaDoorAwake
import Derived.Lib.TrimByte
import Derived.Lib.Strings
import Derived.Lib.AsciiSet
import Derived.Lib.ConvBytes
set_option linter.unusedVariables false
set_option linter.unusedSimpArgs false
namespace Go.Proofs.YtbbldcbilnkkdaaDoor.Parse
open Go.RowKit Go.ChangeShapes Num Tly Ref K Reck

def isDig (b : UInt8) : Bool := decide (48 ≤ b.toNat) && decide (b.toNat ≤ 57)
def tenL : List UInt8 := [48, 49, 50, 51, 52, 53, 54, 55, 56, 57]
theorem ten_is (x : UInt8) : tenL.contains x = isDig x := by
  obtain ⟨n, hn, rfl⟩ : ∃ n : Nat, n < 256 ∧ x = UInt8.ofNat n := ⟨x.toNat, UInt8.toNat_lt x, (UInt8.ofNat_toNat).symm⟩
  revert n
  decide +kernel
theorem drop_head {l : List UInt8} {k : Nat} {x : UInt8} (h : l[k]? = some x) : l.drop k = x :: l.drop (k + 1) := by
  obtain ⟨h1, e⟩ := List.getElem?_eq_some_iff.1 h
  rw [← e]; exact List.drop_eq_getElem_cons h1
theorem dropWhile_at (p : UInt8 → Bool) : ∀ (l : List UInt8) (k : Nat), (∀ (j : Nat) b, j < k → l[j]? = some b → p b = true) → (∀ b, l[k]? = some b → p b = false) → l.dropWhile p = l.drop k
  | [], k, _, _ => by simp
  | x :: l, 0, _, h => by
    have := h x rfl
    simp [List.dropWhile_cons, this]
  | x :: l, k + 1, h1, h2 => by
    have := h1 0 x (by omega) rfl
    rw [List.dropWhile_cons, if_pos this, List.drop_succ_cons]
    exact dropWhile_at p l k (fun j b hj hb => h1 (j + 1) b (by omega) (by simpa using hb)) (fun b hb => h2 b (by simpa using hb))
set_option maxRecDepth 100000 in
set_option maxHeartbeats 2000000 in
theorem trimAscii (l : List UInt8) (b : Nat) (w : World) (hc : ∀ x : UInt8, w.cell? ⟨b, x.toNat, none⟩ = some (.bool (isDig x))) :
    Calls Tryd.prog 70 #[.string ⟨l.toArray⟩, .pointer (some ⟨b, 0, none⟩)] w fun e w' => e = .returned (.string ⟨(l.dropWhile isDig).toArray⟩) ∧ w = w' := by
  have cc : ∀ (x : UInt8), Calls Tryd.prog 91 #[.pointer (some ⟨b, 0, none⟩), .int .u8 x.toNat] w fun e w' => e = .returned (.bool (isDig x)) ∧ w' = w := fun x => Tryd.asciiSet_contains b x (isDig x) w (hc x)
  have CC := Lib.hid cc
  clear hc cc
  go_enter Tryd.func70, Tryd.ntmps70
  go_wp2
  go_loop [0] (fun v => ∃ k : Nat, k ≤ l.length ∧ v = .string ⟨(l.drop k).toArray⟩ ∧ ∀ (j : Nat) b, j < k → l[j]? = some b → isDig b = true) (fun v => Lib.strSize v)
  case atStart => exact ⟨0, Nat.zero_le _, by simp, fun j b hj => absurd hj (Nat.not_lt_zero _)⟩
  case round =>
    obtain ⟨k, hk, rfl, hd⟩ := hrel
    have hts : (⟨(l.drop k).toArray⟩ : ByteArray).size = l.length - k := by rw [Lib.size_mk, List.length_drop]
    have hb0 : ∀ h, l[k]? = some ((⟨(l.drop k).toArray⟩ : ByteArray)[0]'h) := by
      intro h
      rw [← Lib.getElem_mk (l.drop k) 0 h, List.getElem?_drop]
      rfl
    have hx1 : (⟨(l.drop k).toArray⟩ : ByteArray).extract 1 (l.length - k) = ⟨(l.drop (k + 1)).toArray⟩ := by
      rw [Lib.extract_mk, List.drop_drop, List.take_of_length_le (by simp; omega)]
    have HD := Lib.hid hd
    have HK := Lib.hid hk
    clear hd
    generalize ht : (⟨(l.drop k).toArray⟩ : ByteArray) = t at hts hb0 hx1 ⊢
    have HT := Lib.hid ht
    clear ht
    by_cases h0 : 0 < t.size
    · have hbk := hb0 h0
      clear hb0
      by_cases heq : isDig (t[0]'h0) = true
      · have cx := CC.out (t[0]'h0)
        rw [heq] at cx
        have CX := Lib.hid cx
        have HB := Lib.hid hbk
        have HQ := Lib.hid heq
        clear hbk heq cx
        go_wp2_with fail
        refine CX.out.mono ?_
        rintro e w' ⟨rfl, rfl⟩
        go_wp2
        refine ⟨⟨k + 1, ?_, rfl, fun j b hj hb => ?_⟩, ?_⟩
        · have := HK.out; omega
        · by_cases e : j = k
          · subst e
            rw [HB.out] at hb
            rw [← Option.some.inj hb]; exact HQ.out
          · exact HD.out j b (by omega) hb
        · rw [Lib.strSize_string, Lib.strSize_string, Lib.size_mk, List.length_drop]
          omega
      · have cx := CC.out (t[0]'h0)
        rw [Bool.not_eq_true] at heq
        rw [heq] at cx
        have CX := Lib.hid cx
        have HB := Lib.hid hbk
        have HQ := Lib.hid heq
        clear hbk heq cx
        go_wp2_with fail
        refine CX.out.mono ?_
        rintro e w' ⟨rfl, rfl⟩
        go_wp2
        go_ret
        refine ⟨?_, rfl⟩
        show Ending.returned (Value.string t) = _
        rw [dropWhile_at isDig l k HD.out (fun b hb => by
          rw [HB.out] at hb
          rw [← Option.some.inj hb]
          exact HQ.out), HT.out]
    · clear hb0
      go_wp2
      go_ret
      refine ⟨?_, rfl⟩
      show Ending.returned (Value.string t) = _
      rw [dropWhile_at isDig l k HD.out (fun b hb => by
        have : l.length ≤ k := by have := HK.out; omega
        simp [List.getElem?_eq_none this] at hb), HT.out]
theorem zero256 (w : World) : (zeroValue 114).run Tryd.prog w = .ok (.agg (Array.replicate 256 (.bool false))) w := by kernel_rfl
theorem ten_cells (x : UInt8) : (Lib.setCells tenL)[x.toNat]? = some (.bool (isDig x)) := by rw [Lib.setCells_at, ten_is]
set_option maxRecDepth 100000 in
set_option maxHeartbeats 2000000 in
theorem trimTen (l : List UInt8) (w : World) :
    Calls Tryd.prog 39 #[.string ⟨l.toArray⟩, .string ⟨#[48, 49, 50, 51, 52, 53, 54, 55, 56, 57]⟩] w fun e w' => e = .returned (.string ⟨(l.dropWhile isDig).toArray⟩) ∧ Below w.heap.size w w' := by
  match l with
  | [] =>
    go_enter Tryd.func39, Tryd.ntmps39
    go_wp2
    go_ret
    exact ⟨rfl, Below.refl _ _⟩
  | x :: r =>
    have hm := fun W => Tryd.strings_makeASCIISet zero256 ⟨#[48, 49, 50, 51, 52, 53, 54, 55, 56, 57]⟩ W (by decide) (by
      intro j b hb
      have h3 : b ∈ tenL := List.mem_of_getElem? hb
      have h2 : isDig b = true := by rw [← ten_is]; simpa using h3
      unfold isDig at h2
      rw [Bool.and_eq_true, decide_eq_true_eq, decide_eq_true_eq] at h2
      omega)
    have hne : (⟨(x :: r).toArray⟩ : ByteArray).toList.isEmpty = false := by rw [Lib.toList_data]; rfl
    have HMK := Lib.hid hm
    have HT := Lib.hid (trimAscii (x :: r))
    obtain ⟨t, ht⟩ : ∃ t, t = (⟨(x :: r).toArray⟩ : ByteArray) := ⟨_, rfl⟩
    have HTT := Lib.hid ht
    rw [← ht] at hne ⊢
    clear hm ht
    go_enter Tryd.func39, Tryd.ntmps39
    go_wp2_with fail
    refine (HMK.out _).mono ?_
    rintro e w1 ⟨rfl, rfl⟩
    obtain ⟨w2, hw2⟩ : ∃ w2, w2 = w.alloc (.cells (Lib.setCells [48, 49, 50, 51, 52, 53, 54, 55, 56, 57]) 114) := ⟨_, rfl⟩
    have hb2 : Below w.heap.size w w2 := by rw [hw2]; exact (Below.refl _ _).alloc (Nat.le_refl _) _
    rw [← hw2]
    obtain ⟨S, hS⟩ : ∃ S, S = Lib.setCells [48, 49, 50, 51, 52, 53, 54, 55, 56, 57] := ⟨_, rfl⟩
    rw [← hS]
    have s1 : S.size = 256 := by rw [hS]; exact Lib.setCells_size _
    have s2 : S.all (·.oneCell') = true := by rw [hS]; exact Lib.setCells_one _
    have s3 : Tryd.zeroCells114.size = S.size := by rw [s1]; kernel_rfl
    have s4 : (Tryd.prog.info? 114).map (·.size) = some S.size := by rw [s1]; kernel_rfl
    have hn := Row.new w2 114 Tryd.zeroCells114
    have hp := hn.put S
    have hb3 := Row.put_below (hb2.alloc hb2.size (.cells Tryd.zeroCells114 114)) hn hb2.size S
    have hcell : ∀ x : UInt8, ((w2.alloc (.cells Tryd.zeroCells114 114)).setRow w2.heap.size S).cell? ⟨w2.heap.size, x.toNat, none⟩ = some (.bool (isDig x)) := fun x => by
      rw [K.row_cell hp, hS]; exact ten_cells x
    have HTR := Lib.hid (HT.out _ _ hcell)
    have HN := Lib.hid hn
    have HS := Lib.hid (And.intro s2 (And.intro s3 s4))
    have HB3 := Lib.hid hb3
    rw [← HTT.out] at HTR
    clear hw2 hS HMK s1 s2 s3 s4 hn hp hb3 hcell hb2 HT
    go_wp2_with (refine wpList_store_row rfl 114 _ _ rfl (w2.heap.size) _ rfl rfl 114 _ HN.out ?_ ?_ ?_ ?_; exact HS.out.2.2; exact HS.out.2.1; exact HS.out.1)
    refine HTR.out.mono ?_
    rintro e w3 ⟨rfl, rfl⟩
    go_wp2
    go_ret
    exact ⟨rfl, HB3.out⟩
theorem take_drop (p : UInt8 → Bool) (l : List UInt8) : l.takeWhile p ++ l.dropWhile p = l := List.takeWhile_append_dropWhile
theorem len_split (p : UInt8 → Bool) (l : List UInt8) : (l.takeWhile p).length + (l.dropWhile p).length = l.length := by
  have h := congrArg List.length (take_drop p l)
  rwa [List.length_append] at h
theorem take_is (p : UInt8 → Bool) (l : List UInt8) : l.take (l.length - (l.dropWhile p).length) = l.takeWhile p := by
  have h := len_split p l
  have h2 := take_drop p l
  have e : l.length - (l.dropWhile p).length = (l.takeWhile p).length := by omega
  rw [e]
  generalize l.takeWhile p = a at *
  generalize l.dropWhile p = b at *
  rw [← h2, List.take_left]
set_option maxRecDepth 100000 in
theorem cut (l : List UInt8) (hl : l.length ≤ 1000) (w : World) :
    Calls Tryd.prog 65 #[.string ⟨l.toArray⟩] w fun e w' => e = .returned (.tuple #[.string ⟨(l.takeWhile isDig).toArray⟩, .string ⟨(l.dropWhile isDig).toArray⟩]) ∧ Below w.heap.size w w' := by
  have HT := Lib.hid (trimTen l)
  have h1 : (⟨l.toArray⟩ : ByteArray).size = l.length := Lib.size_mk _
  have h2 : (⟨(l.dropWhile isDig).toArray⟩ : ByteArray).size = (l.dropWhile isDig).length := Lib.size_mk _
  have h3 := len_split isDig l
  have hx : (⟨l.toArray⟩ : ByteArray).extract 0 (l.length - (l.dropWhile isDig).length) = ⟨(l.takeWhile isDig).toArray⟩ := by
    rw [Lib.extract_mk, List.drop_zero, Nat.sub_zero, take_is]
  obtain ⟨n, hn⟩ : ∃ n, n = (l.dropWhile isDig).length := ⟨_, rfl⟩
  rw [← hn] at h2 h3 hx
  obtain ⟨m, hm⟩ : ∃ m, m = l.length := ⟨_, rfl⟩
  rw [← hm] at h1 h3 hx hl
  obtain ⟨t, ht⟩ : ∃ t, t = (⟨l.toArray⟩ : ByteArray) := ⟨_, rfl⟩
  obtain ⟨r, hr⟩ : ∃ r, r = (⟨(l.dropWhile isDig).toArray⟩ : ByteArray) := ⟨_, rfl⟩
  rw [← ht] at HT h1 hx ⊢
  rw [← hr] at HT h2 ⊢
  have g1 : (n : Int) ≤ (m : Int) := by omega
  have g2 : (m : Int) - (n : Int) = ((m - n : Nat) : Int) := by omega
  have g3 : (m - n : Nat) ≤ m := by omega
  clear hn hm ht hr h3
  go_enter Tryd.func65, Tryd.ntmps65
  go_wp2_with fail
  refine (HT.out _).mono ?_
  rintro e w1 ⟨rfl, k1⟩
  have K1 := Lib.hid k1
  clear k1
  go_wp2
  go_ret2
  exact ⟨rfl, K1.out⟩
theorem toList_isEmpty (l : List UInt8) : (⟨l.toArray⟩ : ByteArray).toList.isEmpty = l.isEmpty := by rw [Lib.toList_data]
def signP : List UInt8 → Bool × List UInt8
  | [] => (false, [])
  | c :: r => if c = 45 then (true, r) else if c = 43 then (false, r) else (false, c :: r)
theorem byte_is {c d : UInt8} (h : c = d) : (c.toNat : Int) = (d.toNat : Int) ∧ ((c.toNat : Int) == (d.toNat : Int)) = true := by subst h; simp
theorem byte_not {c d : UInt8} (h : ¬ c = d) : ¬ (c.toNat : Int) = (d.toNat : Int) ∧ ((c.toNat : Int) == (d.toNat : Int)) = false := by
  have : ¬ (c.toNat : Int) = (d.toNat : Int) := fun e => h (UInt8.toNat_inj.1 (by exact_mod_cast e))
  exact ⟨this, by simpa using this⟩
set_option maxRecDepth 100000 in
theorem sign (l : List UInt8) (hl : l.length ≤ 1000) (w : World) :
    Calls Tryd.prog 64 #[.string ⟨l.toArray⟩] w fun e w' => e = .returned (.tuple #[.bool (signP l).1, .string ⟨(signP l).2.toArray⟩]) ∧ Below w.heap.size w w' := by
  match l with
  | [] =>
    go_enter Tryd.func64, Tryd.ntmps64
    go_wp2
    go_ret2
    exact ⟨rfl, Below.refl _ _⟩
  | c :: r =>
    have he : (⟨(c :: r).toArray⟩ : ByteArray).toList.isEmpty = false := toList_isEmpty _
    have h1 : (⟨(c :: r).toArray⟩ : ByteArray).size = r.length + 1 := Lib.size_mk _
    have h0 : ∀ h, (⟨(c :: r).toArray⟩ : ByteArray)[0]'h = c := by intro h; rfl
    have hx : (⟨(c :: r).toArray⟩ : ByteArray).extract 1 (r.length + 1) = ⟨r.toArray⟩ := by
      rw [Lib.extract_mk, List.drop_succ_cons, List.drop_zero, Nat.add_sub_cancel, List.take_of_length_le (Nat.le_refl _)]
    obtain ⟨n, hn⟩ : ∃ n, n = r.length + 1 := ⟨_, rfl⟩
    rw [← hn] at h1 hx
    have hn1 : 1 ≤ n := by omega
    have hn2 : (1 : Int) ≤ (n : Int) := by omega
    have hn3 : 0 < n := by omega
    clear hn
    have hs : signP (c :: r) = if c = 45 then (true, r) else if c = 43 then (false, r) else (false, c :: r) := rfl
    obtain ⟨t, ht⟩ : ∃ t, t = (⟨(c :: r).toArray⟩ : ByteArray) := ⟨_, rfl⟩
    have HTT := Lib.hid ht
    rw [← ht] at he h1 h0 hx ⊢
    rw [hs]
    clear ht hs
    by_cases c1 : c = 45
    · rw [if_pos c1]
      have b1 : (c.toNat : Int) = 45 ∧ ((c.toNat : Int) == 45) = true := byte_is c1
      obtain ⟨b1, b2⟩ := b1
      clear c1
      go_enter Tryd.func64, Tryd.ntmps64
      go_wp2
      refine K.region_quiet (C := Below w.heap.size w) (by kernel_rfl) (by kernel_rfl) (K.below_draw _) ?_
      iterate 7 (first
        | ((with_reducible refine wpQuiet_step (fun KK hKK => ?_))
           first
             | ((with_reducible refine K.quiet_else ?_ (K.Puts.mk' _) ?_)
                (first | rfl | (simp [Region.wanted, yielded]; done))
                (with_reducible refine hKK _ ?_))
             | ((with_reducible refine K.quiet_if ?_ ?_)
                (first | rfl | (simp [Region.wanted, yielded]; done))
                first
                  | (apply K.quiet_val
                     · intro w' hw'; go_simp; (try go_ints); exact K.Gives.mk' _ _
                     · go_simp; exact K.Puts.mk' _)
                (with_reducible refine hKK _ ?_))
           clear hKK KK)
        | skip)
      refine wpQuiet_nil ?_
      intro w1 hb1
      go_wp2
      go_ret2
      exact ⟨rfl, hb1⟩
    · rw [if_neg c1]
      have b1 : ¬ (c.toNat : Int) = 45 ∧ ((c.toNat : Int) == 45) = false := byte_not c1
      obtain ⟨b1, b2⟩ := b1
      clear c1
      by_cases c2 : c = 43
      · rw [if_pos c2]
        have b3 : (c.toNat : Int) = 43 ∧ ((c.toNat : Int) == 43) = true := byte_is c2
        obtain ⟨b3, b4⟩ := b3
        clear c2
        go_enter Tryd.func64, Tryd.ntmps64
        go_wp2
        refine K.region_quiet (C := Below w.heap.size w) (by kernel_rfl) (by kernel_rfl) (K.below_draw _) ?_
        iterate 7 (first
          | ((with_reducible refine wpQuiet_step (fun KK hKK => ?_))
             first
               | ((with_reducible refine K.quiet_else ?_ (K.Puts.mk' _) ?_)
                  (first | rfl | (simp [Region.wanted, yielded]; done))
                  (with_reducible refine hKK _ ?_))
               | ((with_reducible refine K.quiet_if ?_ ?_)
                  (first | rfl | (simp [Region.wanted, yielded]; done))
                  first
                    | (apply K.quiet_val
                       · intro w' hw'; go_simp; (try go_ints); exact K.Gives.mk' _ _
                       · go_simp; exact K.Puts.mk' _)
                  (with_reducible refine hKK _ ?_))
             clear hKK KK)
          | skip)
        refine wpQuiet_nil ?_
        intro w1 hb1
        go_wp2
        go_ret2
        exact ⟨rfl, hb1⟩
      · rw [if_neg c2]
        have b3 : ¬ (c.toNat : Int) = 43 ∧ ((c.toNat : Int) == 43) = false := byte_not c2
        obtain ⟨b3, b4⟩ := b3
        clear c2
        go_enter Tryd.func64, Tryd.ntmps64
        go_wp2
        go_ret2
        exact ⟨by rw [HTT.out]; rfl, Below.refl _ _⟩
def nval (l : List UInt8) : Int := l.foldl (fun n c => 10 * n + ((c.toNat : Int) - 48)) 0
theorem nval_nil : nval [] = 0 := rfl
theorem nval_snoc (l : List UInt8) (c : UInt8) : nval (l ++ [c]) = 10 * nval l + ((c.toNat : Int) - 48) := by unfold nval; rw [List.foldl_append]; rfl
theorem take_next {l : List UInt8} {k : Nat} {c : UInt8} (h : l[k]? = some c) : l.take (k + 1) = l.take k ++ [c] := by rw [List.take_add_one, h]; rfl
theorem dig_bounds {c : UInt8} (h : isDig c = true) : 48 ≤ (c.toNat : Int) ∧ (c.toNat : Int) ≤ 57 := by
  unfold isDig at h
  rw [Bool.and_eq_true, decide_eq_true_eq, decide_eq_true_eq] at h
  omega
def AllDig (l : List UInt8) : Prop := ∀ (k : Nat) (c : UInt8), l[k]? = some c → isDig c = true
theorem takeWhile_dig (l : List UInt8) : AllDig (l.takeWhile isDig) := fun k c h => by
  have h2 := List.all_takeWhile (l := l) (p := isDig)
  rw [List.all_eq_true] at h2
  exact h2 c (List.mem_of_getElem? h)
theorem nval_bound (l : List UInt8) (h : AllDig l) : ∀ k, k ≤ l.length → 0 ≤ nval (l.take k) ∧ nval (l.take k) < 10 ^ k
  | 0, _ => by simp [nval_nil]
  | k + 1, hk => by
    have ⟨h1, h2⟩ := nval_bound l h k (by omega)
    have hc : l[k]? = some (l[k]'(by omega)) := List.getElem?_eq_getElem _
    have h3 := dig_bounds (h k _ hc)
    rw [take_next hc, nval_snoc, Int.pow_succ]
    generalize nval (l.take k) = x at *
    generalize (10 : Int) ^ k = P at *
    omega
def expR (l : List UInt8) : Int × Bool :=
  if (signP l).2.dropWhile isDig = [] ∧ 1 ≤ ((signP l).2.takeWhile isDig).length ∧ ((signP l).2.takeWhile isDig).length ≤ 4 then
    (if (signP l).1 then -nval ((signP l).2.takeWhile isDig) else nval ((signP l).2.takeWhile isDig), true)
  else (0, false)
theorem signP_len (l : List UInt8) : (signP l).2.length ≤ l.length := by
  unfold signP
  split
  · simp
  · split
    · simp
    · split <;> simp
theorem dropWhile_len (p : UInt8 → Bool) (l : List UInt8) : (l.dropWhile p).length ≤ l.length := by have := len_split p l; omega
theorem takeWhile_len (p : UInt8 → Bool) (l : List UInt8) : (l.takeWhile p).length ≤ l.length := by have := len_split p l; omega
/-- '[]byte' of a text. -/
theorem conv (l : List UInt8) (W : World) : (convert 9 81 (.string ⟨l.toArray⟩)).run Tryd.prog W = .ok (.slice (some ⟨W.heap.size, 0, none⟩) l.length (grownCap W l.length 0 5)) (Lib.bytesWorld W 5 ⟨l.toArray⟩) := by
  have h := Lib.run_convert_string_bytes (P := Tryd.prog) W 9 81 5 ⟨l.toArray⟩ Tryd.underlying9 Tryd.underlying81 Tryd.underlying5
  rw [Lib.size_mk] at h
  exact h
theorem conv_below {B : Nat} {w W : World} (h : Below B w W) (hB : B ≤ W.heap.size) (l : List UInt8) : Below B w (Lib.bytesWorld W 5 ⟨l.toArray⟩) := by
  obtain ⟨h1, h2, h3, h4, h5⟩ := h
  refine ⟨h1, h2, h3, ?_, fun b hb => ?_⟩
  · rw [Lib.bytesWorld_size]; omega
  · rw [Lib.bytesWorld_at_old _ _ _ _ (by omega)]; exact h5 b hb
set_option maxRecDepth 100000 in
theorem exponent (l : List UInt8) (hl : l.length ≤ 1000) (w : World) :
    Calls Tryd.prog 67 #[.string ⟨l.toArray⟩] w fun e w' => e = .returned (.tuple #[.int .i64 (expR l).1, .bool (expR l).2]) ∧ Below w.heap.size w w' := by
  have hsg := sign l hl
  have hct := cut (signP l).2 (Nat.le_trans (signP_len l) hl)
  obtain ⟨E, hE⟩ : ∃ E, E = expR l := ⟨_, rfl⟩
  rw [← hE]
  unfold expR at hE
  obtain ⟨ng, hng⟩ : ∃ ng, ng = (signP l).1 := ⟨_, rfl⟩
  obtain ⟨r, hr⟩ : ∃ r, r = (signP l).2 := ⟨_, rfl⟩
  rw [← hng, ← hr] at hE
  rw [← hng, ← hr] at hsg
  rw [← hr] at hct
  have had := takeWhile_dig r
  obtain ⟨d, hd⟩ : ∃ d, d = r.takeWhile isDig := ⟨_, rfl⟩
  obtain ⟨s, hs⟩ : ∃ s, s = r.dropWhile isDig := ⟨_, rfl⟩
  rw [← hd, ← hs] at hct hE
  rw [← hd] at had
  have e1 : (⟨s.toArray⟩ : ByteArray).toList.isEmpty = s.isEmpty := toList_isEmpty s
  have e2 : (⟨d.toArray⟩ : ByteArray).size = d.length := Lib.size_mk d
  have hcv := conv d
  obtain ⟨sb, hsb⟩ : ∃ sb, sb = (⟨s.toArray⟩ : ByteArray) := ⟨_, rfl⟩
  obtain ⟨db, hdb⟩ : ∃ db, db = (⟨d.toArray⟩ : ByteArray) := ⟨_, rfl⟩
  rw [← hsb] at e1 hct
  rw [← hdb] at e2 hct hcv
  have HSG := Lib.hid hsg
  have HCT := Lib.hid hct
  have HAD := Lib.hid had
  have HDB := Lib.hid hdb
  have HE := Lib.hid hE
  have HCV := Lib.hid hcv
  clear hsg hct had hng hr hd hs hsb hdb hE hcv
  by_cases hcond : s = [] ∧ 1 ≤ d.length ∧ d.length ≤ 4
  case neg =>
    have HE2 := Lib.hid (show E = (0, false) by rw [HE.out, if_neg hcond])
    have hc : s.isEmpty = false ∨ (s.isEmpty = true ∧ d.length < 1) ∨ (s.isEmpty = true ∧ 1 ≤ d.length ∧ 4 < d.length) := by
      cases s with
      | nil =>
        right
        have e : ([] : List UInt8).isEmpty = true := rfl
        by_cases h9 : 1 ≤ d.length
        · by_cases h8 : d.length ≤ 4
          · exact absurd ⟨rfl, h9, h8⟩ hcond
          · exact Or.inr ⟨e, h9, by omega⟩
        · exact Or.inl ⟨e, by omega⟩
      | cons a b => left; rfl
    clear hcond
    rcases hc with h | ⟨h, h2⟩ | ⟨h, h2, h3⟩
    all_goals
      rw [h] at e1
      clear h
      go_enter Tryd.func67, Tryd.ntmps67
      go_wp2_with fail
      refine (HSG.out _).mono ?_
      rintro e w1 ⟨rfl, k1⟩
      have K1 := Lib.hid k1
      clear k1
      go_wp2_with fail
      refine (HCT.out _).mono ?_
      rintro e w2 ⟨rfl, k2⟩
      have K2 := Lib.hid (K1.out.trans (k2.mono K1.out.size))
      clear k2 K1
      go_wp2
      go_ret2
      rw [HE2.out]
      exact ⟨rfl, K2.out⟩
  case pos =>
    obtain ⟨h1, h2, h3⟩ := hcond
    rw [h1] at e1
    have e3 : ([] : List UInt8).isEmpty = true := rfl
    rw [e3] at e1
    have HS0 := Lib.hid h1
    clear e3 h1
    go_enter Tryd.func67, Tryd.ntmps67
    go_wp2_with fail
    refine (HSG.out _).mono ?_
    rintro e w1 ⟨rfl, k1⟩
    have K1 := Lib.hid k1
    clear k1
    go_wp2_with fail
    refine (HCT.out _).mono ?_
    rintro e w2 ⟨rfl, k2⟩
    have K2 := Lib.hid (K1.out.trans (k2.mono K1.out.size))
    clear k2 K1
    have hcv := HCV.out w2
    have HW3 := Lib.hid (conv_below K2.out K2.out.size d)
    rw [← HDB.out] at HW3
    have hcell := fun j hj => Lib.bytesWorld_cell w2 5 db j hj
    rw [e2] at hcell
    have HCE := Lib.hid hcell
    have h2' : (d.length : Int) ≤ 4 := by omega
    have h3' : ¬ ((d.length : Int) < 1) := by omega
    have h4' : ¬ ((4 : Int) < (d.length : Int)) := by omega
    have HL := Lib.hid (And.intro h2 h3)
    have hsz := Lib.bytesWorld_size w2 5 db
    clear hcell h2 h3 HCV
    obtain ⟨w3, hw3⟩ : ∃ w3, w3 = Lib.bytesWorld w2 5 db := ⟨_, rfl⟩
    rw [← hw3] at hcv HW3 HCE hsz
    clear hw3
    go_wp2
    go_loopw [7, 9, 35] (fun n c i wr => ∃ k : Nat, k ≤ d.length ∧ i = .int .i64 k ∧ n = .int .i64 (nval (d.take k)) ∧ wr = w3) (fun n c i _ => d.length - (intOf i).toNat)
    case atStart => exact ⟨0, Nat.zero_le _, rfl, rfl, rfl⟩
    case round =>
      obtain ⟨k, hk, rfl, rfl, hwr⟩ := hrel
      rw [hwr]
      clear hwr h3' h4' h2'
      rcases Nat.lt_or_ge k d.length with hlt | hge
      · have hki : (k : Int) < (d.length : Int) := by omega
        have hc := HCE.out k hlt
        obtain ⟨c, hcd⟩ : ∃ c, d[k]? = some c := ⟨_, List.getElem?_eq_getElem hlt⟩
        have hc2 : db.data.toList.getD k 0 = c := by rw [HDB.out]; show d.getD k 0 = c; rw [List.getD_eq_getElem?_getD, hcd]; rfl
        rw [hc2] at hc
        have hdg := dig_bounds (HAD.out k c hcd)
        have hnb := nval_bound d HAD.out k hk
        have hp : (10 : Int) ^ k ≤ 1000 := by
          have h9 := pow_mono (q := 10) (m := k) (n := 3) (by decide) (by have := HL.out.2; omega)
          have h8 : (10 : Int) ^ 3 = 1000 := by decide
          omega
        have hnx := nval_snoc (d.take k) c
        rw [← take_next hcd] at hnx
        obtain ⟨N, hN⟩ : ∃ N, N = nval (d.take k) := ⟨_, rfl⟩
        rw [← hN] at hnb hnx ⊢
        have hnb0 := hnb.1
        have hnb1 : N < 1000 := by omega
        have HNX := Lib.hid hnx
        have hd1 := hdg.1
        have hd2 := hdg.2
        have HK := Lib.hid hlt
        clear hnb hp hN hc2 hcd hnx hdg hk hlt
        go_wp2
        go_roundw
        case rel => refine ⟨k + 1, by have := HK.out; omega, by go_num, ?_, trivial⟩; rw [HNX.out]
        case measure => simp [intOf]; have := HK.out; omega
      · have hke : k = d.length := by omega
        subst hke
        have hki : ¬ ((d.length : Int) < (d.length : Int)) := by omega
        rw [List.take_of_length_le (Nat.le_refl _)]
        have hnb := nval_bound d HAD.out d.length (Nat.le_refl _)
        rw [List.take_of_length_le (Nat.le_refl _)] at hnb
        have hp : (10 : Int) ^ d.length ≤ 10000 := by
          have h9 := pow_mono (q := 10) (m := d.length) (n := 4) (by decide) (by have := HL.out.2; omega)
          have h8 : (10 : Int) ^ 4 = 10000 := by decide
          omega
        have HE2 := Lib.hid (show E = (if ng then -nval d else nval d, true) by rw [HE.out, if_pos ⟨HS0.out, HL.out.1, HL.out.2⟩])
        obtain ⟨N, hN⟩ : ∃ N, N = nval d := ⟨_, rfl⟩
        rw [← hN] at hnb HE2 ⊢
        have hn0 := hnb.1
        have hn1 : N < 10000 := by omega
        clear hnb hp hN hk hge hcv
        cases ng
        · go_wp2
          go_ret2
          rw [HE2.out]
          exact ⟨rfl, HW3.out⟩
        · go_wp2
          go_ret2
          rw [HE2.out]
          exact ⟨rfl, HW3.out⟩
end Go.Proofs.YtbbldcbilnkkdaaDoor.Parse
