/-
  The document's order of records by their parts. No condition.
-/
import Derived.Test.YtepljdnhnnpdmaaShuf6
import Derived.Test.YtepljdnhnnpdmaaTwo
set_option linter.unusedVariables false
set_option linter.unusedSimpArgs false
namespace Go.Proofs.Ytepljdnhnnpdmaa.Shuf
open Go.RowKit Go.Shelf Go.ChangeShapes Go.WideShapes Go.ChangeAt K Desk Cut Radix

def keyI (ps : List Int) (i : Nat) : Nat := (ps.getD i 0).toNat
def ordL (ps : List Int) (k : Nat) : List Nat := bucket (keyI ps) k (List.range ps.length)
def stsL (ps : List Int) (p : Nat) : List Nat := (List.range (p + 1)).map (below (keyI ps) (List.range ps.length))
def iv (l : List Nat) : List Value := l.map fun (x : Nat) => Value.int .i64 (x : Int)
def pv (l : List Int) : List Value := l.map fun (x : Int) => Value.int .i64 x
theorem ordL_succ (ps : List Int) (p : Nat) : ordL ps (p + 1) = ordL ps p ++ (List.range ps.length).filter (fun i => keyI ps i == p) := bucket_succ _ _ _
theorem stsL_succ (ps : List Int) (p : Nat) : stsL ps (p + 1) = stsL ps p ++ [below (keyI ps) (List.range ps.length) (p + 1)] := by simp [stsL, List.range_succ]
theorem ordL_len (ps : List Int) (p : Nat) : (ordL ps p).length = below (keyI ps) (List.range ps.length) p ∧ (ordL ps p).length ≤ ps.length := by
  refine ⟨bucket_length _ _ _, ?_⟩
  unfold ordL
  rw [bucket_length]
  have := List.length_filter_le (fun x => decide (keyI ps x < p)) (List.range ps.length)
  rw [List.length_range] at this
  exact this
def badI (k : Nat) (x : Int) : Prop := x < 0 ∨ (k : Int) ≤ x
def apart (v u : Value) : Prop := ∀ b, v.ownBlock = some b → u.ownBlock ≠ some b
def RelO1 (ps : List Int) (k : Nat) (w : World) (i : Value) (wr : World) : Prop := ∃ j : Nat, j ≤ ps.length ∧ i = .int .i64 j ∧ (∀ x ∈ ps.take j, ¬ badI k x) ∧ Below w.heap.size w wr ∧ w.heap.size + 1 ≤ wr.heap.size ∧ Row wr w.heap.size 3 #[.int .i64 0]
def RelO2 (ps : List Int) (k : Nat) (w : World) (o s p : Value) (wr : World) : Prop := ∃ j : Nat, j ≤ k ∧ p = .int .i64 j ∧ wr.ownsRow w.heap.size 3 1 o (ordL ps j).length (iv (ordL ps j)) ∧ wr.ownsRow w.heap.size 3 1 s (j + 1) (iv (stsL ps j)) ∧ apart o s ∧ Below w.heap.size w wr
def RelO3 (ps : List Int) (p : Nat) (s : Value) (w : World) (o i : Value) (wr : World) : Prop :=
  ∃ j : Nat, j ≤ ps.length ∧ i = .int .i64 j ∧ wr.ownsRow w.heap.size 3 1 o ((ordL ps p).length + ((List.range j).filter (fun i => keyI ps i == p)).length) (iv (ordL ps p ++ (List.range j).filter (fun i => keyI ps i == p))) ∧ wr.ownsRow w.heap.size 3 1 s (p + 1) (iv (stsL ps p)) ∧ apart o s ∧ Below w.heap.size w wr
structure OrdOk (ps : List Int) (k : Nat) (w : World) (e : Ending) (w' : World) : Prop where
  ok : ∀ x ∈ ps, ¬ badI k x
  val : ∃ (Ao As : Option Addr) (co cs : Nat), e = .returned (.tuple #[.slice Ao (ordL ps k).length co, .slice As (k + 1) cs, .bool true]) ∧ Lay w' w'.heap.size Ao (iv (ordL ps k)) ∧ Lay w' w'.heap.size As (iv (stsL ps k))
  b : Below w.heap.size w w'
def OrdAt (ps : List Int) (k : Nat) (w : World) (e : Ending) (w' : World) : Prop :=
  ((∃ x ∈ ps, badI k x) ∧ e = .returned (.tuple #[.slice none 0 0, .slice none 0 0, .bool false]) ∧ Below w.heap.size w w') ∨ OrdOk ps k w e w'
theorem lay_int {W : World} {B : Nat} {A : Option Addr} {l : List Int} (h : Lay W B A (pv l)) {k : Nat} {x : Int} (hx : l[k]? = some x) : ∃ b off, A = some ⟨b, off, none⟩ ∧ b < B ∧ W.cell? ⟨b, off + k, none⟩ = some (.int .i64 x) := by
  obtain ⟨b, off, e, hB, hc⟩ := h (by intro h0; have hk := (List.getElem?_eq_some_iff.1 hx).1; have : (pv l).length = 0 := by rw [h0]; rfl
                                      simp [pv] at this; rw [this] at hk; simp at hk)
  exact ⟨b, off, e, hB, hc k _ (by simp [pv, hx])⟩
theorem iv_one (l : List Nat) : ∀ u ∈ iv l, u.oneCell' = true := by
  intro u hu
  obtain ⟨x, -, rfl⟩ := List.mem_map.1 hu
  rfl
set_option maxRecDepth 100000 in
set_option maxHeartbeats 4000000 in
theorem order (ps : List Int) (k : Nat) (h1 : 1 ≤ k) (h2 : k ≤ 512) (A : Option Addr) (cap : Nat) (hm : ps.length * 24 ≤ 140737488355328) (w : World) (hA : Lay w w.heap.size A (pv ps)) :
    Calls Try.prog 33 #[.slice A ps.length cap, .int .i64 k] w (OrdAt ps k w) := by
  obtain ⟨i0, hi, hz0, hz1, hz2⟩ := info_parts infoI'
  have HL := Lib.hid hA
  clear hA
  go_enter Try.func33, Try.ntmps33
  go_wp2
  go_loopw [9] (fun i wr => RelO1 ps k w i wr) (fun i _ => ps.length - (intOf i).toNat)
  case atStart => exact ⟨0, Nat.zero_le _, rfl, fun x hx => by simp at hx, (Below.refl _ _).alloc (Nat.le_refl _) _, by simp, Row.new _ _ _⟩
  case round =>
    obtain ⟨j, hj, rfl, hok, hb, hsz, hr0⟩ := hrel
    rcases Nat.lt_or_ge j ps.length with h6 | h6
    · have hkb : decide ((j : Int) < (ps.length : Int)) = true := decide_eq_true (by omega)
      obtain ⟨x, hx⟩ : ∃ x, ps[j]? = some x := ⟨_, List.getElem?_eq_getElem h6⟩
      obtain ⟨b, off, rfl, hbB, c0⟩ := lay_int (HL.out.below hb) hx
      have htk : ps.take (j + 1) = ps.take j ++ [x] := by
        obtain ⟨hj', e⟩ := List.getElem?_eq_some_iff.1 hx
        rw [List.take_succ_eq_append_getElem hj', e]
      have hxm := List.mem_of_getElem? hx
      have HH := Lib.hid (And.intro hb hr0)
      by_cases hx0 : x < 0
      · have HB := Lib.hid (show ∃ x ∈ ps, badI k x from ⟨x, hxm, .inl hx0⟩)
        have d1 : decide (x < 0) = true := decide_eq_true hx0
        clear hx htk hxm hok hb hr0
        go_wp2
        go_ret3
        exact .inl ⟨HB.out, rfl, HH.out.1⟩
      · have d1 : decide (x < 0) = false := decide_eq_false hx0
        by_cases hx1 : (k : Int) ≤ x
        · have HB := Lib.hid (show ∃ x ∈ ps, badI k x from ⟨x, hxm, .inr hx1⟩)
          have d2 : decide ((k : Int) ≤ x) = true := decide_eq_true hx1
          clear hx htk hxm hok hb hr0
          go_wp2
          go_ret3
          exact .inl ⟨HB.out, rfl, HH.out.1⟩
        · have d2 : decide ((k : Int) ≤ x) = false := decide_eq_false hx1
          have HO := Lib.hid (show ∀ y ∈ ps.take (j + 1), ¬ badI k y from fun y hy => by
            rw [htk] at hy
            rcases List.mem_append.1 hy with hy | hy
            · exact hok y hy
            · rw [List.mem_singleton.1 hy]
              rintro (g | g)
              · exact hx0 g
              · exact hx1 g)
          clear hx htk hxm hok hb hr0
          go_wp2
          go_roundw
          case rel => exact ⟨j + 1, by omega, by go_num, HO.out, HH.out.1, hsz, HH.out.2⟩
          case measure => simp [intOf]; omega
    · obtain rfl : j = ps.length := by omega
      have hkb : decide ((ps.length : Int) < (ps.length : Int)) = false := by simp
      rw [List.take_length] at hok
      have HOK := Lib.hid hok
      have HB := Lib.hid (And.intro hb hr0)
      clear hok hb hr0
      go_wp2
      go_loopw [7, 8, 10] (fun o s p wr => RelO2 ps k w o s p wr) (fun _ _ p _ => k - (intOf p).toNat)
      case atStart =>
        refine ⟨0, Nat.zero_le _, rfl, World.ownsRow_nil _ _ _ _, ?_, (fun b hb => by cases hb), HB.out.1⟩
        refine ⟨by simp [iv, stsL], .inr ⟨w.heap.size, 1, #[.int .i64 0], rfl, Nat.le_refl _, HB.out.2, Nat.le_refl _, by decide, rfl, ?_⟩⟩
        simp [iv, stsL, below_zero]
      case round =>
        clear HB
        obtain ⟨p, hp, rfl, ho, hs, hap, hb⟩ := hrel
        rename World => w2
        rcases Nat.lt_or_ge p k with h7 | h7
        · have hkb2 : decide ((p : Int) < (k : Int)) = true := decide_eq_true (by omega)
          have H2 := Lib.hid (And.intro ho (And.intro hs (And.intro hap hb)))
          clear ho hs hap hb
          go_wp2
          go_loopw [7, 11] (fun o i wr => RelO3 ps p u8 w o i wr) (fun _ i _ => ps.length - (intOf i).toNat)
          case atStart => exact ⟨0, Nat.zero_le _, rfl, by simpa using H2.out.1, H2.out.2.1, H2.out.2.2.1, H2.out.2.2.2⟩
          case round =>
            clear H2
            obtain ⟨i, hi9, rfl, ho, hs, hap, hb⟩ := hrel
            rename World => w3
            have hol := (ordL_len ps p).2
            have hfl : ((List.range i).filter (fun i => keyI ps i == p)).length ≤ ((List.range ps.length).filter (fun i => keyI ps i == p)).length := (List.Sublist.filter _ (List.range_sublist.2 hi9)).length_le
            have hsum : (ordL ps p).length + ((List.range ps.length).filter (fun i => keyI ps i == p)).length ≤ ps.length := by
              have := (ordL_len ps (p + 1)).2
              rw [ordL_succ, List.length_append] at this
              exact this
            rcases Nat.lt_or_ge i ps.length with h8 | h8
            · have hkb3 : decide ((i : Int) < (ps.length : Int)) = true := decide_eq_true (by omega)
              obtain ⟨x, hx⟩ : ∃ x, ps[i]? = some x := ⟨_, List.getElem?_eq_getElem h8⟩
              obtain ⟨b, off, rfl, hbB, c0⟩ := lay_int (HL.out.below hb) hx
              have hnb := HOK.out x (List.mem_of_getElem? hx)
              have hx0 : 0 ≤ x := by unfold badI at hnb; omega
              obtain ⟨y, rfl⟩ := Int.eq_ofNat_of_zero_le hx0
              have hkey : keyI ps i = y := by unfold keyI; rw [List.getD_eq_getElem?_getD, hx]; rfl
              have hnx : (List.range (i + 1)).filter (fun i => keyI ps i == p) = (List.range i).filter (fun i => keyI ps i == p) ++ (if y = p then [i] else []) := by
                rw [List.range_succ, List.filter_append]
                congr 1
                by_cases e : y = p
                · simp [hkey, e]
                · simp [hkey, e]
              clear hx hnb hkey
              by_cases e : y = p
              · subst e
                rw [if_pos rfl] at hnx
                have d1 : ((y : Int) == (y : Int)) = true := by simp
                have HN := Lib.hid hnx
                have hbw : b < w3.heap.size := by have := hb.size; omega
                clear hnx
                have hlt := (ordL_len ps (y + 1)).2
                go_wp2_with (at_builtin; refine append_two rfl _ _ 59 rfl w.heap.size 3 i0 (.int .i64 0) 1 8 Try.underlying59 hi hz0 hz1 hz2 rfl (by decide) _ _ _ rfl (ho.alloc _) ⟨w3.heap.size, 0, none⟩ 1 1 [.int .i64 i] rfl ?c1 ?c2 ?c3 ?c4 ?c5 ?c6 ?c7 ?_)
                case c1 => rfl
                case c2 =>
                  intro j u hu
                  have := (Row.new w3 3 #[.int .i64 i]).get (i := j) (v := u) (by simpa using hu)
                  rw [Go.WideShapes.add_plain, Nat.zero_add]
                  exact this
                case c3 =>
                  intro u hu
                  rw [List.mem_singleton.1 hu]; rfl
                case c4 => unfold maxLen; omega
                case c5 => omega
                case c6 => have := hb.size; simp only [World.size_alloc]; omega
                case c7 => decide
                intro v' w4 hown' hgrow hplace
                have hsl := hs.lt
                have hs' := (hs.alloc (.cells #[.int .i64 i] 3)).kept hgrow (by
                  rcases hq : u8.ownBlock with _ | q
                  · exact .inl rfl
                  · exact .inr (fun e => hap q e.symm hq))
                have hap' : apart v' u8 := fun q hq hq8 => by
                  rcases hplace with g | g
                  · exact hap q (by rw [← g]; exact hq) hq8
                  · rw [g] at hq
                    have h1 := (hsl q hq8).2
                    injection hq with hq
                    have e9 : (w3.alloc (.cells #[.int .i64 i] 3)).heap.size = w3.heap.size + 1 := by simp
                    omega
                have hb' := (hb.alloc hb.size (.cells #[.int .i64 i] 3)).grown hgrow (by have := hb.size; simp only [World.size_alloc]; omega) (fun g hg => (ho.lt g hg).1)
                have H5 := Lib.hid (And.intro hown' (And.intro hs' (And.intro hap' hb')))
                clear hown' hgrow hplace hsl hs' hap' hb' ho hs hap hb c0
                go_wp2
                go_roundw
                case rel =>
                  refine ⟨i + 1, by omega, by go_num, ?_, H5.out.2.1, H5.out.2.2.1, H5.out.2.2.2⟩
                  rw [HN.out, List.length_append, ← Nat.add_assoc, ← List.append_assoc]
                  have := H5.out.1
                  rw [show iv (ordL ps y ++ List.filter (fun i => keyI ps i == y) (List.range i) ++ [i]) = iv (ordL ps y ++ List.filter (fun i => keyI ps i == y) (List.range i)) ++ [Value.int .i64 i] by simp [iv]]
                  exact this
                case measure => simp [intOf]; omega
              · rw [if_neg e, List.append_nil] at hnx
                have d1 : ((y : Int) == (p : Int)) = false := by simp; omega
                have H5 := Lib.hid (And.intro hnx (And.intro ho (And.intro hs (And.intro hap hb))))
                clear hnx ho hs hap hb e
                go_wp2
                go_roundw
                case rel => exact ⟨i + 1, by omega, by go_num, by rw [H5.out.1]; exact H5.out.2.1, H5.out.2.2.1, H5.out.2.2.2.1, H5.out.2.2.2.2⟩
                case measure => simp [intOf]; omega
            · obtain rfl : i = ps.length := by omega
              have hkb3 : decide ((ps.length : Int) < (ps.length : Int)) = false := by simp
              rw [← ordL_succ] at ho
              have hlen : (ordL ps p).length + ((List.range ps.length).filter (fun i => keyI ps i == p)).length = (ordL ps (p + 1)).length := by rw [ordL_succ, List.length_append]
              rw [hlen] at ho
              have hlen1 := (ordL_len ps (p + 1)).1
              have hlen2 := (ordL_len ps (p + 1)).2
              have hss := stsL_succ ps p
              obtain ⟨tot, htot⟩ : ∃ tot, (ordL ps (p + 1)).length = tot := ⟨_, rfl⟩
              rw [← hlen1, htot] at hss
              rw [htot] at ho hlen2
              obtain ⟨Ao, co, rfl, hco, -, -⟩ := lay_of_own ho
              have HSS := Lib.hid hss
              have Htot := Lib.hid htot
              clear hlen hlen1 hss htot hsum hfl hol
              go_wp2_with (at_builtin; refine append_two rfl _ _ 59 rfl w.heap.size 3 i0 (.int .i64 0) 1 8 Try.underlying59 hi hz0 hz1 hz2 rfl (by decide) _ _ _ rfl (hs.alloc _) ⟨w3.heap.size, 0, none⟩ 1 1 [.int .i64 tot] rfl ?e1 ?e2 ?e3 ?e4 ?e5 ?e6 ?e7 ?_)
              case e1 => rfl
              case e2 =>
                intro j u hu
                have := (Row.new w3 3 #[.int .i64 tot]).get (i := j) (v := u) (by simpa using hu)
                rw [Go.WideShapes.add_plain, Nat.zero_add]
                exact this
              case e3 =>
                intro u hu
                rw [List.mem_singleton.1 hu]; rfl
              case e4 => unfold maxLen; omega
              case e5 => omega
              case e6 => have := hb.size; simp only [World.size_alloc]; omega
              case e7 => decide
              intro v' w4 hown' hgrow hplace
              have hol := ho.lt
              have ho' := (ho.alloc (.cells #[.int .i64 tot] 3)).kept hgrow (by
                rcases hq : (Value.slice Ao tot co).ownBlock with _ | q
                · exact .inl rfl
                · exact .inr (fun e => hap q hq e.symm))
              have hap' : apart (.slice Ao tot co) v' := fun q hq hq8 => by
                rcases hplace with g | g
                · exact hap q hq (by rw [← g]; exact hq8)
                · rw [g] at hq8
                  have h1 := (hol q hq).2
                  injection hq8 with hq8
                  have e9 : (w3.alloc (.cells #[.int .i64 tot] 3)).heap.size = w3.heap.size + 1 := by simp
                  omega
              have hb' := (hb.alloc hb.size (.cells #[.int .i64 tot] 3)).grown hgrow (by have := hb.size; simp only [World.size_alloc]; omega) (fun g hg => (hs.lt g hg).1)
              have H5 := Lib.hid (And.intro hown' (And.intro ho' (And.intro hap' hb')))
              clear hown' hgrow hplace hol ho' hap' hb' ho hs hap hb
              go_wp2
              go_roundw
              case rel =>
                refine ⟨p + 1, by omega, by go_num, by rw [Htot.out]; exact H5.out.2.1, ?_, H5.out.2.2.1, H5.out.2.2.2⟩
                have := H5.out.1
                rw [HSS.out, show iv (stsL ps p ++ [tot]) = iv (stsL ps p) ++ [Value.int .i64 tot] by simp [iv]]
                exact this
              case measure => simp [intOf]; omega
        · obtain rfl : p = k := by omega
          have hkb2 : decide ((p : Int) < (p : Int)) = false := by simp
          obtain ⟨Ao, co, rfl, -, -, hlo⟩ := lay_of_own ho
          obtain ⟨As, cs, rfl, -, -, hls⟩ := lay_of_own hs
          have HZ := Lib.hid (And.intro hlo (And.intro hls hb))
          clear ho hs hap hlo hls hb
          go_wp2
          go_ret3
          exact .inr ⟨HOK.out, ⟨Ao, As, co, cs, rfl, HZ.out.1, HZ.out.2.1⟩, HZ.out.2.2⟩
end Go.Proofs.Ytepljdnhnnpdmaa.Shuf
