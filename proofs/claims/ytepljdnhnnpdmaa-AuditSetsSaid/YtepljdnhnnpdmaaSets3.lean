/-
  The audit of colours: its closures. No condition.
-/
import Derived.Test.YtepljdnhnnpdmaaSets2
set_option linter.unusedVariables false
set_option linter.unusedSimpArgs false
namespace Go.Proofs.Ytepljdnhnnpdmaa.Sets
open Go.RowKit Go.Shelf K Feed Desk Forest Case Rank

def stepS (l : List S8) (n a c : Nat) (F : List Nat) (x : E3) : List Nat :=
  if x.s ≠ x.d ∧ (l.getD (ordS n a c x.s.toNat x.d.toNat) zero8).at 0 < 64 then
    F.set (ordD n a c x.s.toNat x.d.toNat) (F.getD (ordD n a c x.s.toNat x.d.toNat) 0 ||| 2 ^ ((l.getD (ordS n a c x.s.toNat x.d.toNat) zero8).at 0).toNat) else F
def foldS (l : List S8) (n a c : Nat) (es : List E3) : List Nat := es.foldl (stepS l n a c) (List.replicate n 0)
theorem foldS_snoc (l : List S8) (n a c : Nat) (es : List E3) (x : E3) : foldS l n a c (es ++ [x]) = stepS l n a c (foldS l n a c es) x := by simp [foldS]
theorem stepS_length (l : List S8) (n a c : Nat) (F : List Nat) (x : E3) : (stepS l n a c F x).length = F.length := by unfold stepS; split <;> simp
theorem foldS_length (l : List S8) (n a c : Nat) (es : List E3) : (foldS l n a c es).length = n :=
  Peel.snoc_ind (P := fun es => (foldS l n a c es).length = n) (by simp [foldS]) (fun es x ih => by rw [foldS_snoc, stepS_length, ih]) es
def noteS (l : List S8) (n a c : Nat) (f : Int × Int) (x : E3) : Int × Int :=
  if x.s ≠ x.d then noteD f (ordD n a c x.s.toNat x.d.toNat : Nat) 2 ((l.getD (ordS n a c x.s.toNat x.d.toNat) zero8).at 0 == (l.getD (ordD n a c x.s.toNat x.d.toNat) zero8).at 0) else f
theorem stepS_lt (l : List S8) (n a c : Nat) (F : List Nat) (x : E3) (h : ∀ v, F.getD v 0 < 18446744073709551616) : ∀ v, (stepS l n a c F x).getD v 0 < 18446744073709551616 := by
  intro v
  unfold stepS
  split
  · rename_i g
    generalize ordD n a c x.s.toNat x.d.toNat = q
    by_cases e : q = v
    · subst e
      rw [List.getD_eq_getElem?_getD]
      by_cases hl : q < F.length
      · rw [List.getElem?_set_self hl]
        exact Nat.or_lt_two_pow (n := 64) (h q) (Nat.pow_lt_pow_right (by decide) (by omega))
      · rw [List.getElem?_eq_none (by simp; omega)]; decide
    · rw [List.getD_eq_getElem?_getD, List.getElem?_set_ne e, ← List.getD_eq_getElem?_getD]; exact h v
  · exact h v
theorem foldS_lt (l : List S8) (n a c : Nat) (es : List E3) : ∀ v, (foldS l n a c es).getD v 0 < 18446744073709551616 :=
  Peel.snoc_ind (P := fun es => ∀ v, (foldS l n a c es).getD v 0 < 18446744073709551616) (fun v => by simp only [foldS, List.foldl_nil, List.getD_eq_getElem?_getD, List.getElem?_replicate]; split <;> simp) (fun es x ih => by rw [foldS_snoc]; exact stepS_lt l n a c _ x ih) es

theorem wrap_pow (t : Nat) (ht : t < 64) : IntKind.u64.wrap (2 ^ t) = ((2 ^ t : Nat) : Int) := by
  have hp : (2 : Nat) ^ t < 18446744073709551616 := by
    have := Nat.pow_lt_pow_right (a := 2) (by omega) ht
    simpa using this
  rw [show (2 : Int) ^ t = ((2 ^ t : Nat) : Int) by push_cast; rfl]
  generalize 2 ^ t = p at hp
  exact IntWalk.u64_in _ ⟨by omega, by omega⟩
def SeeCPost (n g Dk : Nat) (F : List Nat) (rest : List Value) (nn kind : Int) (ed sl : Value) (f : Int × Int) (w : World) (e : Ending) (w' : World) : Prop :=
  e = .returned (.tuple #[]) ∧ FRow w' g F rest ∧ Row w' Dk 152 (deskRow nn kind ed sl false f.1 f.2) ∧ Turns (fun k => k = g ∨ k = Dk) w w'
theorem stepS_nat (l : List S8) (n a c : Nat) (F : List Nat) (x : E3) {s d : Nat} (hs : x.s = s) (hd : x.d = d) :
    stepS l n a c F x = if s ≠ d ∧ (l.getD (ordS n a c s d) zero8).at 0 < 64 then F.set (ordD n a c s d) (F.getD (ordD n a c s d) 0 ||| 2 ^ ((l.getD (ordS n a c s d) zero8).at 0).toNat) else F := by
  unfold stepS
  rw [hs, hd, Int.toNat_natCast, Int.toNat_natCast]
  simp only [ne_eq, Int.natCast_inj]
theorem noteS_nat (l : List S8) (n a c : Nat) (f : Int × Int) (x : E3) {s d : Nat} (hs : x.s = s) (hd : x.d = d) :
    noteS l n a c f x = if s ≠ d then noteD f (ordD n a c s d : Nat) 2 ((l.getD (ordS n a c s d) zero8).at 0 == (l.getD (ordD n a c s d) zero8).at 0) else f := by
  unfold noteS
  rw [hs, hd, Int.toNat_natCast, Int.toNat_natCast]
  simp only [ne_eq, Int.natCast_inj]
set_option maxRecDepth 100000 in
set_option maxHeartbeats 2000000 in
theorem seeC (n a c g rcap cap Br Bs Bh Bd Dk n₀ : Nat) (A : Option Addr) (l : List S8) (rest : List Value) (F : List Nat) (nn kind : Int) (ed sl : Value) (f : Int × Int) (hO : isOrder n a c = 0) (hF : F.length = n) (hFb : ∀ v, F.getD v 0 < 18446744073709551616) (hl : l.length = n) (hn : n ≤ 5000) (x : E3) (hs : x.s < n) (hd : x.d < n)
    (hBr : Br ≠ Dk) (hBs : Bs ≠ g) (hBh : Bh ≠ g) (hBs' : Bs ≠ Dk) (hBh' : Bh ≠ Dk) (hgD : g ≠ Dk) (w : World)
    (hn₀ : n₀ ≤ w.heap.size) (hnD : n₀ ≤ Dk) (hA : Lay w n₀ A (svs l)) (hR : FRow w g F rest) (hr : Row w Br 72 #[.int .u32 n, .int .u32 a, .int .u32 c]) (hS : Row w Bs 69 #[.slice A l.length cap]) (hH : Row w Bh 76 #[.slice (some ⟨g, 0, none⟩) n rcap])
    (hBB : Row w Bd 107 #[.pointer (some ⟨Dk, 0, none⟩)]) (hDk : Row w Dk 152 (deskRow nn kind ed sl false f.1 f.2)) :
    Calls Try.prog 90 #[.agg #[.int .u32 x.s, .int .u32 x.d, .int .u32 x.x], .pointer (some ⟨Br, 0, none⟩), .pointer (some ⟨Bd, 0, none⟩), .pointer (some ⟨Bs, 0, none⟩), .pointer (some ⟨Bh, 0, none⟩)] w
      (SeeCPost n g Dk (stepS l n a c F x) rest nn kind ed sl (noteS l n a c f x) w) := by
  obtain ⟨s, hs'⟩ : ∃ s : Nat, x.s = s := ⟨x.s.toNat, by have := x.sb; omega⟩
  obtain ⟨d, hd'⟩ : ∃ d : Nat, x.d = d := ⟨x.d.toNat, by have := x.db; omega⟩
  obtain ⟨z, hz'⟩ : ∃ z : Int, x.x = z := ⟨_, rfl⟩
  rw [stepS_nat l n a c F x hs' hd', noteS_nat l n a c f x hs' hd', hs', hd', hz']
  rw [hs'] at hs
  rw [hd'] at hd
  clear hs' hd' hz' x
  have hs : s < n := by omega
  have hd : d < n := by omega
  have ho := Lib.hid (fun W => ordered n a c s d z hO hs hd W)
  obtain ⟨u, hu⟩ : ∃ u, ordS n a c s d = u := ⟨_, rfl⟩
  obtain ⟨v, hv⟩ : ∃ v, ordD n a c s d = v := ⟨_, rfl⟩
  have hun : u < n := hu ▸ ordS_lt hs hd
  have hvn : v < n := hv ▸ ordD_lt hs hd
  rw [hu, hv] at ho ⊢
  obtain ⟨zu, hzu⟩ : ∃ zu, (l.getD u zero8).at 0 = zu := ⟨_, rfl⟩
  obtain ⟨zv, hzv⟩ : ∃ zv, (l.getD v zero8).at 0 = zv := ⟨_, rfl⟩
  have hzb : 0 ≤ zu ∧ zu ≤ 18446744073709551615 := by rw [← hzu]; exact S8.at_ok _ _
  rw [hzu, hzv]
  obtain ⟨yv, hyv⟩ : ∃ yv, F.getD v 0 = yv := ⟨_, rfl⟩
  have hyb : yv < 18446744073709551616 := by rw [← hyv]; exact hFb v
  have hyg : F[v]? = some yv := by rw [← hyv, List.getD_eq_getElem?_getD, List.getElem?_eq_getElem (by omega)]; rfl
  rw [hyv]
  obtain ⟨F', hF'⟩ : ∃ F', (if s ≠ d ∧ zu < 64 then F.set v (yv ||| 2 ^ zu.toNat) else F) = F' := ⟨_, rfl⟩
  obtain ⟨f', hf'⟩ : ∃ f', (if s ≠ d then noteD f (v : Nat) 2 (zu == zv) else f) = f' := ⟨_, rfl⟩
  rw [hF', hf']
  have HF' := Lib.hid (And.intro hF' hf')
  have Hyb := Lib.hid (And.intro hyb hzb)
  clear hu hv hO hF' hf' hFb hyv hyb hzb
  have r0 := (hr.alloc (.cells #[.int .u32 (s : Int), .int .u32 (d : Int), .int .u32 z] 36))
  have r1 := (hS.alloc (.cells #[.int .u32 (s : Int), .int .u32 (d : Int), .int .u32 z] 36))
  have r2 := (hH.alloc (.cells #[.int .u32 (s : Int), .int .u32 (d : Int), .int .u32 z] 36))
  have r3 : FRow _ g F rest := (Row.alloc hR (.cells #[.int .u32 (s : Int), .int .u32 (d : Int), .int .u32 z] 36))
  have r4 := (hBB.alloc (.cells #[.int .u32 (s : Int), .int .u32 (d : Int), .int .u32 z] 36))
  have r5 := (hDk.alloc (.cells #[.int .u32 (s : Int), .int .u32 (d : Int), .int .u32 z] 36))
  have B0 := (Below.refl w.heap.size w).alloc (Nat.le_refl _) (.cells #[.int .u32 (s : Int), .int .u32 (d : Int), .int .u32 z] 36)
  have l0 := hA.below (B0.mono hn₀)
  have c0 := r0.get (i := 0) rfl
  have c1 := r0.get (i := 1) rfl
  have c2 := r0.get (i := 2) rfl
  simp only [List.getElem_toArray, List.getElem_cons_zero, List.getElem_cons_succ] at c0 c1 c2
  have hbr := hr.lt
  have HH := Lib.hid (And.intro r1 (And.intro r2 (And.intro r3 (And.intro r4 (And.intro r5 (And.intro B0 l0))))))
  clear hr hS hH hR hA hBB hDk r0 r1 r2 r3 r4 r5 B0 l0
  go_enter Try.func90, Try.ntmps90
  go_wp2_with fail
  refine (ho.out _).mono ?_
  rintro e w1 ⟨rfl, hb⟩
  obtain ⟨r1, r2, r3, r4, r5, B0, l0⟩ := HH.out
  have q1 := r1.below hb r1.lt
  have q2 := r2.below hb r2.lt
  have q3 : FRow w1 g F rest := Row.below r3 hb (Row.lt r3)
  have q4 := r4.below hb r4.lt
  have q5 := r5.below hb r5.lt
  have B1 := B0.trans (hb.mono (by simp))
  have l1 := l0.below (hb.mono (by simp; omega))
  have T1 := Turns.of_below B1 (S := fun k => k = g ∨ k = Dk)
  have S1 := hb.size
  simp only [World.size_alloc] at S1
  obtain ⟨hF', hf'⟩ := HF'.out
  by_cases h1 : s = d
  · rw [if_neg (fun h => h.1 h1)] at hF'
    rw [if_neg (fun h => h h1)] at hf'
    subst hF' hf'
    have e1 : (s != d) = false := by simp [h1]
    rw [e1]
    have HQ := Lib.hid (And.intro q3 (And.intro q5 T1))
    clear h1 q1 q2 q3 q4 q5 T1 B1 l1 r1 r2 r3 r4 r5 B0 l0 hb c0 c1 c2
    go_wp2
    go_end0
    exact ⟨rfl, HQ.out.1, HQ.out.2.1, HQ.out.2.2⟩
  have e1 : (s != d) = true := by simpa using h1
  rw [e1]
  rw [if_pos h1] at hf'
  obtain ⟨b, off, rfl, hbn, hc⟩ := lay_at l1 (k := u) (by omega)
  obtain ⟨b', off', hbe, -, hc'⟩ := lay_at l1 (k := v) (by omega)
  cases hbe
  have cu := hc 0 (by omega)
  have cv := hc' 0 (by omega)
  rw [Nat.add_zero, hzu] at cu
  rw [Nat.add_zero, hzv] at cv
  have d0 := q4.get (i := 0) rfl
  have d1 := q1.get (i := 0) rfl
  have d2 := q2.get (i := 0) rfl
  simp only [List.getElem_toArray, List.getElem_cons_zero] at d0 d1 d2
  have hul : u < l.length := by omega
  have hvl : v < l.length := by omega
  have HQ := Lib.hid (And.intro q1 (And.intro q2 (And.intro q3 (And.intro q4 (And.intro q5 (And.intro T1 l1))))))
  have hF2 := Lib.hid hF'
  have hf2 := Lib.hid hf'
  have k0 : (0 : Int) ≤ (u : Int) := by omega
  have k1 : (u : Int) < (l.length : Int) := by omega
  have k2 : (0 : Int) ≤ (v : Int) := by omega
  have k3 : (v : Int) < (l.length : Int) := by omega
  clear r1 r2 r3 r4 r5 B0 l0 q1 q2 q3 q4 q5 T1 B1 l1 hc hc' hb c0 c1 c2 hF' hf'
  go_wp2
  refine K.region_tail 13 (by kernel_rfl) (by kernel_rfl) ?_
  simp only [List.take_succ_cons, List.take_zero, List.drop_succ_cons, List.drop_zero]
  iterate 14 (first
    | ((with_reducible refine wpStill_step (fun KK hKK => ?_))
       first
         | ((with_reducible refine K.still_else ?_ (K.Puts.mk' _) ?_)
            (first | rfl | (simp [Region.wanted, yielded]; done))
            (with_reducible refine hKK _ ?_))
         | ((with_reducible refine K.still_if ?_ ?_)
            (first | rfl | (simp [Region.wanted, yielded]; done))
            apply K.still_val
            · go_simp; (try go_ints); exact K.Gives.mk' _ _
            · go_simp; exact K.Puts.mk' _
            (with_reducible refine hKK _ ?_))
       clear hKK KK)
    | skip)
  refine wpStill_nil ?_
  go_wp2_with fail
  obtain ⟨q1, q2, q3, q4, q5, T1, l1⟩ := HQ.out
  refine (broken Dk nn kind ed sl f v 2 _ _ (Row.drew q5)).mono ?_
  rintro e w2 ⟨rfl, hD2, ht2⟩
  have p1 := ht2.row q1.drew hBs'
  have p2 := ht2.row q2.drew hBh'
  have p3 : FRow w2 g F rest := ht2.row (Row.drew q3) hgD
  have T2 := T1.drew.trans (ht2.more (S' := fun k => k = g ∨ k = Dk) (fun k h => .inr h))
  have S2 := ht2.size
  rw [World.size_drew] at S2
  have l2 : Lay w2 n₀ (some ⟨b, off, none⟩) (svs l) := (l1.below (Below.refl n₀ w1).drew).below (ht2.below (n := n₀) (by simp; omega) (fun k h => by omega))
  obtain ⟨b2, off2, hbe, hb2, hc⟩ := lay_at l2 (k := u) (by omega)
  cases hbe
  have cu2 := hc 0 (by omega)
  rw [Nat.add_zero, hzu] at cu2
  have d1 := p1.get (i := 0) rfl
  have d2 := p2.get (i := 0) rfl
  have d3 := p3.get hyg
  have d4 := Row.free p3 v
  simp only [List.getElem_toArray, List.getElem_cons_zero] at d1 d2
  have hgl := Row.lt p3
  have HP := Lib.hid (And.intro p3 (And.intro hD2 T2))
  clear p1 p2 p3 T2 l2 hc q1 q2 q3 q4 q5 T1 l1 hD2 ht2 cu cv d0
  by_cases h2 : zu < 64
  · have t2 : decide (zu < 64) = true := decide_eq_true h2
    have hF3 := hF2.out
    rw [if_pos ⟨h1, h2⟩] at hF3
    have HF3 := Lib.hid hF3
    obtain ⟨t, ht⟩ : ∃ t : Nat, zu = t := ⟨zu.toNat, by have := Hyb.out.2; omega⟩
    subst ht
    have hsh := wrap_pow t (by omega)
    have hp : (2 : Nat) ^ t < 18446744073709551616 := by
      have := Nat.pow_lt_pow_right (a := 2) (m := t) (n := 64) (by omega) (by omega)
      simpa using this
    have hor := u64_or_nat yv (2 ^ t) Hyb.out.1 hp
    have HZ := Lib.hid (And.intro ((show FRow _ g _ rest from Row.drew (HP.out.1.set (v := v) (u := yv ||| 2 ^ t) (by omega)))) ((HP.out.2.2.setCell (p := ⟨g, v, none⟩) (.inl rfl) (.int .u64 ((yv ||| 2 ^ t : Nat) : Int))).drew))
    have HD2 := Lib.hid (Row.drew (Row.other HP.out.2.1 (a := ⟨g, v, none⟩) (by show Dk ≠ g; omega) (.int .u64 ((yv ||| 2 ^ t : Nat) : Int))))
    rw [Int.toNat_natCast] at HF3
    obtain ⟨p, hpe⟩ : ∃ p, (((2 ^ t : Nat) : Nat) : Int) = p := ⟨_, rfl⟩
    obtain ⟨q, hqe⟩ : ∃ q, (((yv ||| 2 ^ t : Nat) : Nat) : Int) = q := ⟨_, rfl⟩
    rw [hqe] at HZ HD2 hor
    rw [hpe] at hor
    rw [hpe] at hsh
    clear hF3 hp hpe hqe
    go_wp2
    refine K.region_tail 12 (by kernel_rfl) (by kernel_rfl) ?_
    simp only [List.take_succ_cons, List.take_zero, List.drop_succ_cons, List.drop_zero]
    iterate 13 (first
      | ((with_reducible refine wpStill_step (fun KK hKK => ?_))
         first
           | ((with_reducible refine K.still_else ?_ (K.Puts.mk' _) ?_)
              (first | rfl | (simp [Region.wanted, yielded]; done))
              (with_reducible refine hKK _ ?_))
           | ((with_reducible refine K.still_if ?_ ?_)
              (first | rfl | (simp [Region.wanted, yielded]; done))
              apply K.still_val
              · go_simp; (try go_ints); exact K.Gives.mk' _ _
              · go_simp; exact K.Puts.mk' _
              (with_reducible refine hKK _ ?_))
         clear hKK KK)
      | skip)
    refine wpStill_nil ?_
    go_wp2
    go_end0
    exact ⟨rfl, by rw [← HF3.out]; exact HZ.out.1, by rw [← hf2.out]; exact HD2.out, HZ.out.2⟩
  · have t2 : decide (zu < 64) = false := decide_eq_false h2
    have hF3 := hF2.out
    rw [if_neg (fun h => h2 h.2)] at hF3
    subst hF3
    clear h2
    go_wp2
    go_end0
    exact ⟨rfl, HP.out.1, by rw [← hf2.out]; exact HP.out.2.1, HP.out.2.2⟩
end Go.Proofs.Ytepljdnhnnpdmaa.Sets
