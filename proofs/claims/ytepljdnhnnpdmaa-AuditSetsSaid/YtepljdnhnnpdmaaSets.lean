/-
  The audits of sets and of colours: their closures. No condition.
-/
import Derived.Test.YtepljdnhnnpdmaaCores
import Derived.Test.YtepljdnhnnpdmaaRank
set_option linter.unusedVariables false
set_option linter.unusedSimpArgs false
namespace Go.Proofs.Ytepljdnhnnpdmaa.Sets
open Go.RowKit Go.Shelf K Feed Desk Forest Case Rank

/-! ### the plain law -/
def pl (n a c v : Nat) : Nat := (a * v + c) % n
def ordS (n a c s d : Nat) : Nat := if pl n a c s < pl n a c d then s else d
def ordD (n a c s d : Nat) : Nat := if pl n a c s < pl n a c d then d else s
section
variable {n a c s d : Nat}
theorem ordS_lt (hs : s < n) (hd : d < n) : ordS n a c s d < n := by unfold ordS; split <;> assumption
theorem ordD_lt (hs : s < n) (hd : d < n) : ordD n a c s d < n := by unfold ordD; split <;> assumption
theorem gcd_of (h : isOrder n a c = 0) : Nat.gcd a n = 1 := by
  unfold isOrder at h
  split at h
  · cases h
  · rename_i g
    exact Decidable.byContradiction fun g' => g (.inr (.inr (.inr (.inr g'))))
theorem pl_inj (h : isOrder n a c = 0) (hs : s < n) (hd : d < n) : pl n a c s = pl n a c d ↔ s = d :=
  ⟨fun e => coprime_inj (gcd_of h) hs hd e, fun e => by rw [e]⟩
end
theorem place_ok {n a c v : Nat} (h : isOrder n a c = 0) (hv : v < n) : placeV n a c v = pl n a c v ∧ placeE n a c v = 0 := by
  unfold placeV placeE pl
  rw [if_neg (by simp [h]), if_neg (by omega), if_neg (by simp [h]), if_neg (by omega)]
  exact ⟨rfl, rfl⟩
def stepA (l : List S8) (n a c : Nat) (F : List Nat) (x : E3) : List Nat :=
  if x.s ≠ x.d ∧ (l.getD (ordS n a c x.s.toNat x.d.toNat) zero8).at 0 = 1 then F.set (ordD n a c x.s.toNat x.d.toNat) 1 else F
def foldA (l : List S8) (n a c : Nat) (es : List E3) : List Nat := es.foldl (stepA l n a c) (List.replicate n 0)
theorem foldA_snoc (l : List S8) (n a c : Nat) (es : List E3) (x : E3) : foldA l n a c (es ++ [x]) = stepA l n a c (foldA l n a c es) x := by simp [foldA]
theorem stepA_length (l : List S8) (n a c : Nat) (F : List Nat) (x : E3) : (stepA l n a c F x).length = F.length := by unfold stepA; split <;> simp
theorem foldA_length (l : List S8) (n a c : Nat) (es : List E3) : (foldA l n a c es).length = n :=
  Peel.snoc_ind (P := fun es => (foldA l n a c es).length = n) (by simp [foldA]) (fun es x ih => by rw [foldA_snoc, stepA_length, ih]) es

/-! ### an edge's ends in order -/
theorem ret3 {a b a' b' : Int} {p q : Bool} (h1 : a = a') (h2 : b = b') (h3 : p = q) : Ending.returned (.tuple #[.int .u32 a, .int .u32 b, .bool p]) = .returned (.tuple #[.int .u32 a', .int .u32 b', .bool q]) := by rw [h1, h2, h3]
set_option maxHeartbeats 1000000 in
theorem ordered (n a c s d : Nat) (x : Int) (h : isOrder n a c = 0) (hs : s < n) (hd : d < n) (w : World) :
    Calls Try.prog 87 #[.agg #[.int .u32 n, .int .u32 a, .int .u32 c], .agg #[.int .u32 s, .int .u32 d, .int .u32 x]] w fun e w' =>
      e = .returned (.tuple #[.int .u32 (ordS n a c s d : Nat), .int .u32 (ordD n a c s d : Nat), .bool (s != d)]) ∧ Below w.heap.size w w' := by
  obtain ⟨g1, g2, g3, g4⟩ := isOrder_yes h
  have hP := Lib.hid (fun v (hv : v < n) W => (by
    have := place n a c v (by omega) (by omega) (by omega) (by omega) W
    rw [(place_ok h hv).1, (place_ok h hv).2] at this
    exact this : Calls Try.prog 113 #[.agg #[.int .u32 n, .int .u32 a, .int .u32 c], .int .u32 v] W fun e w' => e = .returned (.tuple #[.int .u32 (pl n a c v : Nat), .int .i64 0]) ∧ Below W.heap.size W w'))
  have hi := Lib.hid (pl_inj h hs hd)
  have HO := Lib.hid (show ordS n a c s d = if pl n a c s < pl n a c d then s else d from rfl)
  have HD := Lib.hid (show ordD n a c s d = if pl n a c s < pl n a c d then d else s from rfl)
  obtain ⟨p, hp⟩ : ∃ p, pl n a c s = p := ⟨_, rfl⟩
  obtain ⟨q, hq⟩ : ∃ q, pl n a c d = q := ⟨_, rfl⟩
  have R0 := Lib.hid ((Row.new w 72 #[.int .u32 n, .int .u32 a, .int .u32 c]).alloc (.cells #[.int .u32 s, .int .u32 d, .int .u32 x] 36))
  have R1 := Lib.hid (Row.at (Row.new (w.alloc (.cells #[.int .u32 n, .int .u32 a, .int .u32 c] 72)) 36 #[.int .u32 s, .int .u32 d, .int .u32 x]) (b' := w.heap.size + 1) (by simp))
  have B0 := Lib.hid (((Below.refl w.heap.size w).alloc (Nat.le_refl _) (.cells #[.int .u32 n, .int .u32 a, .int .u32 c] 72)).alloc (by simp) (.cells #[.int .u32 s, .int .u32 d, .int .u32 x] 36))
  have H1 := Lib.hid (hp ▸ hP.out s hs)
  have H2 := Lib.hid (hq ▸ hP.out d hd)
  rw [hp, hq] at hi HO HD
  clear h hp hq hP g1 g2 g3 g4
  go_enter Try.func87, Try.ntmps87
  go_wp2_with fail
  refine (H1.out _).mono ?_
  rintro e w1 ⟨rfl, hw1⟩
  have R01 := R0.out.below hw1 (by simp; omega)
  have R11 := R1.out.below hw1 (by simp)
  have B1 := Lib.hid (B0.out.trans (hw1.mono (by simp; omega)))
  have c0 := R01.get (i := 0) rfl
  have c1 := R01.get (i := 1) rfl
  have c2 := R01.get (i := 2) rfl
  have e0 := R11.get (i := 0) rfl
  have e1 := R11.get (i := 1) rfl
  have s1 := hw1.size
  simp only [World.size_alloc] at s1
  simp only [List.getElem_toArray, List.getElem_cons_zero, List.getElem_cons_succ] at c0 c1 c2 e0 e1
  have R01 := Lib.hid R01
  have R11 := Lib.hid R11
  clear hw1
  go_wp2_with fail
  refine (H2.out _).mono ?_
  rintro e w2 ⟨rfl, hw2⟩
  have R12 := R11.out.below hw2 (by omega)
  have B2 := Lib.hid (B1.out.trans (hw2.mono (by omega)))
  have f0 := R12.get (i := 0) rfl
  have f1 := R12.get (i := 1) rfl
  simp only [List.getElem_toArray, List.getElem_cons_zero, List.getElem_cons_succ] at f0 f1
  clear hw2 R12 c0 c1 c2 e0 e1
  by_cases hlt : p < q
  · have hne := Lib.hid (show true = (s != d) from (bne_iff_ne.2 (fun e => by have := hi.out.2 e; omega)).symm)
    have d1 : decide (p < q) = true := decide_eq_true hlt
    rw [if_pos hlt] at HO HD
    clear hlt
    go_wp2
    go_quiet (fail)
    go_wp2
    go_ret3
    exact ⟨ret3 (by rw [HO.out]) (by rw [HD.out]) hne.out, below_drewN B2.out _⟩
  · have hne := Lib.hid (show ((p : Int) != (q : Int)) = (s != d) by
      rw [Bool.eq_iff_iff]
      simp only [bne_iff_ne, ne_eq, Int.natCast_inj]
      exact not_congr hi.out)
    have d1 : decide (p < q) = false := decide_eq_false hlt
    rw [if_neg hlt] at HO HD
    clear hlt
    go_wp2
    go_quiet (fail)
    go_wp2
    go_ret3
    exact ⟨ret3 (by rw [HO.out]) (by rw [HD.out]) hne.out, below_drewN B2.out _⟩

/-! ### the closures -/
def SeePost (n g : Nat) (F : List Nat) (rest : List Value) (w : World) (e : Ending) (w' : World) : Prop := e = .returned (.tuple #[]) ∧ FRow w' g F rest ∧ Turns (fun k => k = g) w w'
theorem stepA_nat (l : List S8) (n a c : Nat) (F : List Nat) (x : E3) {s d : Nat} (hs : x.s = s) (hd : x.d = d) :
    stepA l n a c F x = if s ≠ d ∧ (l.getD (ordS n a c s d) zero8).at 0 = 1 then F.set (ordD n a c s d) 1 else F := by
  unfold stepA
  rw [hs, hd, Int.toNat_natCast, Int.toNat_natCast]
  simp only [ne_eq, Int.natCast_inj]
theorem lay_at {W : World} {B : Nat} {A : Option Addr} {l : List S8} (h : Lay W B A (svs l)) {k : Nat} (hk : k < l.length) : ∃ b off, A = some ⟨b, off, none⟩ ∧ b < B ∧ ∀ f, f < 8 → W.cell? ⟨b, off + k * 8 + f, none⟩ = some (.int .u64 ((l.getD k zero8).at f)) :=
  Lay.state h (by rw [List.getD_eq_getElem?_getD, List.getElem?_eq_getElem hk]; rfl)
set_option maxRecDepth 100000 in
set_option maxHeartbeats 2000000 in
theorem seeI (n a c g rcap cap Br Bs Bh n₀ : Nat) (A : Option Addr) (l : List S8) (rest : List Value) (F : List Nat) (hO : isOrder n a c = 0) (hF : F.length = n) (hl : l.length = n) (hn : n ≤ 5000) (x : E3) (hs : x.s < n) (hd : x.d < n) (hBr : Br ≠ g) (hBs : Bs ≠ g) (hBh : Bh ≠ g) (w : World)
    (hn₀ : n₀ ≤ w.heap.size) (hA : Lay w n₀ A (svs l)) (hR : FRow w g F rest) (hr : Row w Br 72 #[.int .u32 n, .int .u32 a, .int .u32 c]) (hS : Row w Bs 69 #[.slice A l.length cap]) (hH : Row w Bh 76 #[.slice (some ⟨g, 0, none⟩) n rcap]) :
    Calls Try.prog 86 #[.agg #[.int .u32 x.s, .int .u32 x.d, .int .u32 x.x], .pointer (some ⟨Br, 0, none⟩), .pointer (some ⟨Bs, 0, none⟩), .pointer (some ⟨Bh, 0, none⟩)] w (SeePost n g (stepA l n a c F x) rest w) := by
  obtain ⟨s, hs'⟩ : ∃ s : Nat, x.s = s := ⟨x.s.toNat, by have := x.sb; omega⟩
  obtain ⟨d, hd'⟩ : ∃ d : Nat, x.d = d := ⟨x.d.toNat, by have := x.db; omega⟩
  obtain ⟨z, hz'⟩ : ∃ z : Int, x.x = z := ⟨_, rfl⟩
  rw [stepA_nat l n a c F x hs' hd', hs', hd', hz']
  rw [hs'] at hs
  rw [hd'] at hd
  clear hs' hd' hz' x
  have hs : s < n := by omega
  have hd : d < n := by omega
  have ho := Lib.hid (fun W => ordered n a c s d z hO hs hd W)
  obtain ⟨u, hu⟩ : ∃ u, ordS n a c s d = u := ⟨_, rfl⟩
  obtain ⟨v, hv⟩ : ∃ v, ordD n a c s d = v := ⟨_, rfl⟩
  have hun : u < n := hu ▸ ordS_lt hs hd
  have hvn : v < n := hv ▸ ordD_lt hs hd
  rw [hu, hv] at ho ⊢
  obtain ⟨F', hF'⟩ : ∃ F', (if s ≠ d ∧ (l.getD u zero8).at 0 = 1 then F.set v 1 else F) = F' := ⟨_, rfl⟩
  rw [hF']
  have HF' := Lib.hid hF'
  clear hu hv hO hF'
  have r0 := (hr.alloc (.cells #[.int .u32 (s : Int), .int .u32 (d : Int), .int .u32 z] 36))
  have r1 := (hS.alloc (.cells #[.int .u32 (s : Int), .int .u32 (d : Int), .int .u32 z] 36))
  have r2 := (hH.alloc (.cells #[.int .u32 (s : Int), .int .u32 (d : Int), .int .u32 z] 36))
  have r3 : FRow _ g F rest := (Row.alloc hR (.cells #[.int .u32 (s : Int), .int .u32 (d : Int), .int .u32 z] 36))
  have B0 := (Below.refl w.heap.size w).alloc (Nat.le_refl _) (.cells #[.int .u32 (s : Int), .int .u32 (d : Int), .int .u32 z] 36)
  have l0 := hA.below (B0.mono hn₀)
  have c0 := r0.get (i := 0) rfl
  have c1 := r0.get (i := 1) rfl
  have c2 := r0.get (i := 2) rfl
  simp only [List.getElem_toArray, List.getElem_cons_zero, List.getElem_cons_succ] at c0 c1 c2
  have hbr := hr.lt
  have HH := Lib.hid (And.intro r1 (And.intro r2 (And.intro r3 (And.intro B0 l0))))
  clear hr hS hH hR hA r0 r1 r2 r3 B0 l0
  go_enter Try.func86, Try.ntmps86
  go_wp2_with fail
  refine (ho.out _).mono ?_
  rintro e w1 ⟨rfl, hb⟩
  obtain ⟨r1, r2, r3, B0, l0⟩ := HH.out
  have q1 := r1.below hb r1.lt
  have q2 := r2.below hb r2.lt
  have q3 : FRow w1 g F rest := Row.below r3 hb (Row.lt r3)
  have B1 := B0.trans (hb.mono (by simp))
  have l1 := l0.below (hb.mono (by simp; omega))
  obtain ⟨b, off, rfl, hbn, hc⟩ := lay_at l1 (k := u) (by omega)
  have cu := hc 0 (by omega)
  rw [Nat.add_zero] at cu
  have d1 := q1.get (i := 0) rfl
  have d2 := q2.get (i := 0) rfl
  have d3 := Row.free q3 v
  obtain ⟨yv, hyv⟩ : ∃ y, F[v]? = some y := ⟨_, List.getElem?_eq_getElem (by omega)⟩
  have d4 := q3.get hyv
  simp only [List.getElem_toArray, List.getElem_cons_zero] at d1 d2
  clear hyv
  obtain ⟨zu, hzu⟩ : ∃ zu, (l.getD u zero8).at 0 = zu := ⟨_, rfl⟩
  rw [hzu] at cu
  have hF' := HF'.out
  rw [hzu] at hF'
  have hul : u < l.length := by omega
  have T1 := Lib.hid (Turns.of_below B1 (S := fun k => k = g))
  have Q3 := Lib.hid q3
  have hgl := Row.lt q3
  clear r1 r2 r3 B0 l0 q1 q2 q3 B1 l1 hc hzu hb c0 c1 c2
  by_cases h1 : s = d
  · rw [if_neg (fun h => h.1 h1)] at hF'
    subst hF'
    have e1 : (s != d) = false := by simp [h1]
    rw [e1]
    clear h1
    go_wp2
    go_end0
    exact ⟨rfl, Q3.out, T1.out⟩
  have e1 : (s != d) = true := by simpa using h1
  rw [e1]
  by_cases h2 : zu = 1
  · rw [if_pos ⟨h1, h2⟩] at hF'
    subst h2
    subst hF'
    have Q4 := Lib.hid (Q3.out.set (v := v) (u := 1) (by omega))
    have T4 := Lib.hid (T1.out.setCell (p := ⟨g, v, none⟩) rfl (.int .u64 1))
    clear h1
    go_wp2
    go_end0
    exact ⟨rfl, Q4.out, T4.out⟩
  · rw [if_neg (fun h => h2 h.2)] at hF'
    subst hF'
    have e2 : (zu == 1) = false := by simpa using h2
    clear h1 h2
    go_wp2
    go_end0
    exact ⟨rfl, Q3.out, T1.out⟩
end Go.Proofs.Ytepljdnhnnpdmaa.Sets
