/-
  The document's components: the least vertex of each. No condition.
-/
import Derived.Test.YtepljdnhnnpdmaaCase3
import Derived.Test.YtepljdnhnnpdmaaLabels2
set_option linter.unusedVariables false
set_option linter.unusedSimpArgs false
namespace Go.Proofs.Ytepljdnhnnpdmaa.Wcc
open Go.RowKit Go.Shelf K Feed Desk Forest Case Labels

/-! ### the plain law -/
def Flat (F : List Nat) (P : Nat → Nat) (k : Nat) : Prop := ∀ v, v < k → F[v]? = some (P v)
theorem Flat.halve {F : List Nat} {P : Nat → Nat} {n k v u u2 : Nat} (h : Flat F P k) (hp : Rep F P n) (hv : v < n) (h1 : F[v]? = some u) (h2 : u < v) (h3 : F[u]? = some u2) : Flat (F.set v u2) P k := by
  intro x hx
  by_cases e : v = x
  · subst e
    have e1 : u = P v := by have := h v hx; rw [h1] at this; cases this; rfl
    have e2 := root_at (hp.2 v hv)
    rw [← e1, h3] at e2
    cases e2
    rw [List.getElem?_set_self (by rw [hp.1]; exact hv), e1]
  · rw [List.getElem?_set_ne e]; exact h x hx
theorem Rep.flat {F : List Nat} {P : Nat → Nat} {n v : Nat} (h : Rep F P n) (hv : v < n) : Rep (F.set v (P v)) P n := by
  refine ⟨by rw [List.length_set]; exact h.1, fun x hx => ?_⟩
  have hvv : (F.set v (P v))[v]? = some (P v) := List.getElem?_set_self (by rw [h.1]; exact hv)
  have key : ∀ {x r}, Root F x r → Root (F.set v (P v)) x r := by
    intro x r hr
    induction hr with
    | @here x h5 =>
      by_cases e : v = x
      · subst e
        have e1 := root_unique (h.2 v hv) (.here h5)
        rw [e1] at hvv ⊢
        exact .here hvv
      · exact .here (by rw [List.getElem?_set_ne e]; exact h5)
    | @up x y r h5 h6 h7 ih =>
      by_cases e : v = x
      · subst e
        have e1 := root_unique (h.2 v hv) (.up h5 h6 h7)
        have e2 := root_at (h.2 v hv)
        have e3 := root_le h7
        rw [← e1] at *
        exact .up hvv (by omega) (.here (by rw [List.getElem?_set_ne (by omega)]; exact e2))
      · exact .up (by rw [List.getElem?_set_ne e]; exact h5) h6 ih
  exact key (h.2 x hx)
theorem Flat.next {F : List Nat} {P : Nat → Nat} {k : Nat} (h : Flat F P k) (hk : k < F.length) : Flat (F.set k (P k)) P (k + 1) := by
  intro x hx
  by_cases e : k = x
  · subst e; exact List.getElem?_set_self hk
  · rw [List.getElem?_set_ne e]; exact h x (by omega)
theorem Flat.all {F : List Nat} {P : Nat → Nat} (h : Flat F P F.length) : F = (List.range F.length).map P := by
  refine List.ext_getElem? fun i => ?_
  rcases Nat.lt_or_ge i F.length with g | g
  · rw [h i g]; simp [g]
  · rw [List.getElem?_eq_none g, List.getElem?_eq_none (by simp; exact g)]

/-! ### the walk to a root, where the first ones lie flat -/
def RelR' (P : Nat → Nat) (n g k : Nat) (rest : List Value) (v : Nat) (w : World) (x : Value) (wr : World) : Prop :=
  ∃ (y : Nat) (F : List Nat), y < n ∧ x = .int .u64 y ∧ FRow wr g F rest ∧ (Rep F P n ∧ Flat F P k) ∧ P y = P v ∧ Turns (fun k => k = g) w wr
def RootPost' (P : Nat → Nat) (n g k : Nat) (rest : List Value) (v : Nat) (w : World) (e : Ending) (w' : World) : Prop :=
  e = .returned (.int .u64 (P v : Nat)) ∧ (∃ F, FRow w' g F rest ∧ Rep F P n ∧ Flat F P k) ∧ Turns (fun k => k = g) w w'
set_option maxRecDepth 100000 in
set_option maxHeartbeats 1000000 in
theorem refRoot' (P : Nat → Nat) (n g k cap : Nat) (rest : List Value) (F : List Nat) (v : Nat) (hv : v < n) (hn : n ≤ 4294967295) (w : World) (hR : FRow w g F rest) (hP : Rep F P n) (hQ : Flat F P k) :
    Calls Try.prog 82 #[.slice (some ⟨g, 0, none⟩) n cap, .int .u64 v] w (RootPost' P n g k rest v w) := by
  go_enter Try.func82, Try.ntmps82
  go_wp2
  go_loopw [1] (fun x wr => RelR' P n g k rest v w x wr) (fun x _ => (intOf x).toNat)
  case atStart => exact ⟨v, F, hv, rfl, hR, ⟨hP, hQ⟩, rfl, Turns.refl _ _⟩
  case round =>
    clear hR hP hQ F
    obtain ⟨y, F, hy, rfl, hr, ⟨hp, hq⟩, he, ht⟩ := hrel
    obtain ⟨u, hu, hle, hPu, hroot⟩ := hp.get hy
    have c0 := hr.get hu
    have d0 : (0 : Int) ≤ (y : Int) := by omega
    have d1 : (y : Int) < (n : Int) := by omega
    have HR := Lib.hid hr
    have HP := Lib.hid hp
    have HQ := Lib.hid hq
    have HE := Lib.hid he
    have HT := Lib.hid ht
    have HU := Lib.hid hu
    have HPu := Lib.hid hPu
    clear hr hp hq he ht hu hPu
    by_cases e : u = y
    · have HRo := Lib.hid (hroot e)
      clear hroot
      subst e
      go_wp2
      go_ret
      exact ⟨by rw [← HE.out, HRo.out]; rfl, ⟨F, HR.out, HP.out, HQ.out⟩, HT.out⟩
    · clear hroot
      have g1 : ((u : Int) != (y : Int)) = true := by simp; omega
      have hlt : u < y := by omega
      obtain ⟨u2, hu2, hle2, hPu2, -⟩ := HP.out.get (v := u) (by omega)
      have c1 := HR.out.get hu2
      have f0 := Row.free HR.out y
      have d2 : (0 : Int) ≤ (u : Int) := by omega
      have d3 : (u : Int) < (n : Int) := by omega
      have HU2 := Lib.hid hu2
      have HPu2 := Lib.hid hPu2
      clear hu2 hPu2 e
      go_wp2
      go_roundw
      case rel => exact ⟨u2, _, by omega, rfl, HR.out.set (by rw [HP.out.1]; exact hy), ⟨HP.out.halve hy HU.out hlt HU2.out hle2, HQ.out.halve HP.out hy HU.out hlt HU2.out⟩, by rw [HPu2.out, HPu.out, HE.out], HT.out.setCell (p := ⟨g, y, none⟩) rfl _⟩
      case measure => simp [intOf]; omega

/-! ### the walk -/
def RelA (w : World) (n g : Nat) (i : Value) (wr : World) : Prop := ∃ k : Nat, k ≤ n ∧ i = .int .i64 k ∧ Row wr g 53 (fc (List.range k) ++ List.replicate (n - k) (Value.int .u64 0)).toArray ∧ Below w.heap.size w wr
def RelB (w : World) (n g : Nat) (l : List E3) (i : Value) (wr : World) : Prop := ∃ k : Nat, k ≤ l.length ∧ i = .int .i64 k ∧ (∃ F, FRow wr g F [] ∧ Rep F (foldP (l.take k)) n) ∧ Below w.heap.size w wr
def RelC (w : World) (n g : Nat) (P : Nat → Nat) (i : Value) (wr : World) : Prop := ∃ k : Nat, k ≤ n ∧ i = .int .i64 k ∧ (∃ F, FRow wr g F [] ∧ Rep F P n ∧ Flat F P k) ∧ Below w.heap.size w wr
def WccAt (w : World) (n : Nat) (P : Nat → Nat) (e : Ending) (w' : World) : Prop := ∃ g, e = .returned (.slice (some ⟨g, 0, none⟩) n n) ∧ w.heap.size ≤ g ∧ FRow w' g ((List.range n).map P) [] ∧ Below w.heap.size w w'
set_option maxRecDepth 100000 in
set_option maxHeartbeats 4000000 in
theorem wcc (n : Nat) (hn : n ≤ 5000) (A : Option Addr) (l : List E3) (cap : Nat) (hr : l.length * 12 ≤ 140737488351232) (hgood : ∀ x ∈ l, x.s < n ∧ x.d < n) (w : World) (hA : Lay w w.heap.size A (evs l)) :
    Calls Try.prog 44 #[.int .u32 n, .slice A l.length cap] w (WccAt w n (foldP l)) := by
  obtain ⟨i0, hi, hz0, hz1, hz2⟩ := info_parts info64
  have hmk := fun W => make_one (P := Try.prog) W .u32 76 53 i0 (.int .u64 0) rfl Try.underlying76 hi hz0 hz1 n (by rw [hz2]; omega) (by omega)
  have HL := Lib.hid hA
  have HG := Lib.hid hgood
  have B0 := Lib.hid ((Below.refl w.heap.size w).alloc (Nat.le_refl _) (.cells (List.replicate n (.int .u64 0)).toArray 53))
  clear hA hgood
  go_enter Try.func44, Try.ntmps44
  go_wp2
  go_loopw [6] (fun i wr => RelA w n w.heap.size i wr) (fun i _ => n - (intOf i).toNat)
  case atStart => exact ⟨0, Nat.zero_le _, rfl, by simpa [fc] using Row.new w 53 (List.replicate n (.int .u64 0)).toArray, B0.out⟩
  case round =>
    obtain ⟨k, hk, rfl, hrow, hl⟩ := hrel
    rcases Nat.lt_or_ge k n with h6 | h6
    · have hlen : (fc (List.range k)).length = k := by simp [fc]
      have hc : wr.cell? ⟨w.heap.size, k, none⟩ = some (.int .u64 0) := hrow.get (by
        simp only [List.getElem?_toArray]
        rw [List.getElem?_append_right (by omega), hlen, List.getElem?_replicate, if_pos (by omega)])
      have hf := hrow.free k
      have hkb : decide ((k : Int) < (n : Int)) = true := by simp; omega
      have hrow' : Row (wr.setCell ⟨w.heap.size, k, none⟩ (.int .u64 k)) w.heap.size 53 (fc (List.range (k + 1)) ++ List.replicate (n - (k + 1)) (Value.int .u64 0)).toArray := by
        refine (congrArg (fun a => Row _ _ _ a) ?_).mp (hrow.set k (.int .u64 k))
        simp only [List.setIfInBounds_toArray]
        rw [List.set_append_right _ _ (by omega), hlen, show n - k = (n - (k + 1)) + 1 by omega, Nat.sub_self, List.replicate_succ (n := n - (k + 1)), List.set_cons_zero, List.range_succ]
        simp [fc]
      have HR := Lib.hid hrow'
      have HB := Lib.hid (hl.setCell (p := ⟨w.heap.size, k, none⟩) (Nat.le_refl _) (.int .u64 k))
      clear hrow hrow' hl hlen
      go_wp2
      go_roundw
      case rel => exact ⟨k + 1, by omega, by go_num, HR.out, HB.out⟩
      case measure => simp [intOf]; omega
    · obtain rfl : k = n := by omega
      have hkb : decide ((k : Int) < (k : Int)) = false := by simp
      have HR := Lib.hid (show FRow wr w.heap.size (List.range k) [] by simpa [FRow] using hrow)
      clear hrow
      go_wp2
      go_loopw [7] (fun i wr => RelB w k w.heap.size l i wr) (fun i _ => l.length - (intOf i).toNat)
      case atStart => exact ⟨0, Nat.zero_le _, rfl, ⟨_, HR.out, rep_range k⟩, hl⟩
      case round =>
        clear hl
        obtain ⟨j, hj, rfl, ⟨F, hFR, hP⟩, hl⟩ := hrel
        rcases Nat.lt_or_ge j l.length with h6 | h6
        · obtain ⟨x, hx⟩ : ∃ x, l[j]? = some x := ⟨_, List.getElem?_eq_getElem h6⟩
          have hfold : foldP (l.take (j + 1)) = joinP (foldP (l.take j)) x.s.toNat x.d.toNat := by
            obtain ⟨hj', e⟩ := List.getElem?_eq_some_iff.1 hx
            rw [List.take_succ_eq_append_getElem hj', foldP_snoc, e]
          have hxg := HG.out x (List.mem_of_getElem? hx)
          obtain ⟨b, off, rfl, hB, c0, c1, c2⟩ := (HL.out.below hl).edge hx
          obtain ⟨s, hs⟩ : ∃ s : Nat, x.s = s := ⟨x.s.toNat, by have := x.sb; omega⟩
          obtain ⟨d, hd⟩ : ∃ d : Nat, x.d = d := ⟨x.d.toNat, by have := x.db; omega⟩
          rw [hs, hd] at hxg hfold
          rw [hs] at c0
          rw [hd] at c1
          rw [Int.toNat_natCast, Int.toNat_natCast] at hfold
          have hsn : s < k := by omega
          have hdn : d < k := by omega
          have hkb : decide ((j : Int) < (l.length : Int)) = true := by simp; omega
          have hsz : w.heap.size < wr.heap.size := Row.lt hFR
          generalize foldP (l.take j) = P at hP hfold
          have H1 := Lib.hid (refRoot P k w.heap.size k [] F s hsn (by omega) wr hFR hP)
          have H2 := Lib.hid (fun F' W (h : FRow W w.heap.size F' []) (h' : Rep F' P k) => refRoot P k w.heap.size k [] F' d hdn (by omega) W h h')
          have HF := Lib.hid hfold
          clear hx c2 hFR hP hfold hxg hs hd
          go_wp2_with fail
          refine H1.out.mono ?_
          rintro e w1 ⟨rfl, ⟨F1, hr1, hp1⟩, ht1⟩
          have hb1 : Below w.heap.size wr w1 := ht1.below (by omega) (fun k h => by omega)
          have c1' := (hb1.cell (p := ⟨b, off + j * 3 + 1, none⟩) hB).trans c1
          go_wp2_with fail
          refine (H2.out F1 w1 hr1 hp1).mono ?_
          rintro e w2 ⟨rfl, ⟨F2, hr2, hp2⟩, ht2⟩
          have hb2 : Below w.heap.size w1 w2 := ht2.below (by have := ht1.size; omega) (fun k h => by omega)
          have HB := Lib.hid (hl.trans (hb1.trans hb2))
          have HJ := hp2.join hsn hdn
          have qs := hp2.lt hsn
          have qd := hp2.lt hdn
          clear ht1 ht2 hb1 hb2 hr1 hp1 c0 c1 c1' hl
          rcases Nat.lt_or_ge (P s) (P d) with h7 | h7
          · rw [Nat.max_eq_right (by omega), Nat.min_eq_left (by omega)] at HJ
            obtain ⟨u, hu⟩ : ∃ u, F2[P d]? = some u := ⟨_, List.getElem?_eq_getElem (by rw [hp2.1]; exact qd)⟩
            have cu := hr2.get hu
            have fu := Row.free hr2 (P d)
            have hlt : decide (((P s : Nat) : Int) < ((P d : Nat) : Int)) = true := by simp; omega
            have HR := Lib.hid (hr2.set (u := P s) (v := P d) (by rw [hp2.1]; exact qd))
            have HJ := Lib.hid HJ
            have HBZ := Lib.hid (HB.out.setCell (p := ⟨w.heap.size, P d, none⟩) (Nat.le_refl _) (.int .u64 ((P s : Nat) : Int)))
            clear hr2 hp2 hu
            go_wp2
            go_roundw
            case rel => exact ⟨j + 1, by omega, by go_num, ⟨_, HR.out, by rw [HF.out]; exact HJ.out⟩, HBZ.out⟩
            case measure => simp [intOf]; omega
          · rw [Nat.max_eq_left (by omega), Nat.min_eq_right (by omega)] at HJ
            obtain ⟨u, hu⟩ : ∃ u, F2[P s]? = some u := ⟨_, List.getElem?_eq_getElem (by rw [hp2.1]; exact qs)⟩
            have cu := hr2.get hu
            have fu := Row.free hr2 (P s)
            have hlt : decide (((P s : Nat) : Int) < ((P d : Nat) : Int)) = false := by simp; omega
            have HR := Lib.hid (hr2.set (u := P d) (v := P s) (by rw [hp2.1]; exact qs))
            have HJ := Lib.hid HJ
            have HBZ := Lib.hid (HB.out.setCell (p := ⟨w.heap.size, P s, none⟩) (Nat.le_refl _) (.int .u64 ((P d : Nat) : Int)))
            clear hr2 hp2 hu
            go_wp2
            go_roundw
            case rel => exact ⟨j + 1, by omega, by go_num, ⟨_, HR.out, by rw [HF.out]; exact HJ.out⟩, HBZ.out⟩
            case measure => simp [intOf]; omega
        · obtain rfl : j = l.length := by omega
          have hkb : decide ((l.length : Int) < (l.length : Int)) = false := by simp
          rw [List.take_of_length_le (Nat.le_refl _)] at hP
          have HR := Lib.hid hFR
          obtain ⟨P, hPf⟩ : ∃ P, foldP l = P := ⟨_, rfl⟩
          rw [hPf] at hP
          have HP := Lib.hid hP
          have HPf := Lib.hid hPf
          clear hFR hP hPf
          go_wp2
          go_loopw [10] (fun i wr => RelC w k w.heap.size P i wr) (fun i _ => k - (intOf i).toNat)
          case atStart => exact ⟨0, Nat.zero_le _, rfl, ⟨_, HR.out, HP.out, fun v hv => absurd hv (Nat.not_lt_zero _)⟩, hl⟩
          case round =>
            clear hl HR HP F
            obtain ⟨j, hj, rfl, ⟨F, hFR, hP, hQ⟩, hl⟩ := hrel
            have hsz : w.heap.size < wr.heap.size := Row.lt hFR
            rcases Nat.lt_or_ge j k with h6 | h6
            · have hkb : decide ((j : Int) < (k : Int)) = true := by simp; omega
              have H1 := Lib.hid (refRoot' P k w.heap.size j k [] F j h6 (by omega) wr hFR hP hQ)
              clear hFR hP hQ
              go_wp2_with fail
              refine H1.out.mono ?_
              rintro e w1 ⟨rfl, ⟨F1, hr1, hp1, hq1⟩, ht1⟩
              have hb1 : Below w.heap.size wr w1 := ht1.below (by omega) (fun k h => by omega)
              obtain ⟨u, hu⟩ : ∃ u, F1[j]? = some u := ⟨_, List.getElem?_eq_getElem (by rw [hp1.1]; exact h6)⟩
              have cu := hr1.get hu
              have fu := Row.free hr1 j
              have HR := Lib.hid (hr1.set (u := P j) (v := j) (by rw [hp1.1]; exact h6))
              have HP := Lib.hid (Rep.flat hp1 h6)
              have HQ := Lib.hid (hq1.next (by rw [hp1.1]; exact h6))
              have HBZ := Lib.hid ((hl.trans hb1).setCell (p := ⟨w.heap.size, j, none⟩) (Nat.le_refl _) (.int .u64 ((P j : Nat) : Int)))
              clear hr1 hp1 hq1 ht1 hb1 hl hu
              go_wp2
              go_roundw
              case rel => exact ⟨j + 1, by omega, by go_num, ⟨_, HR.out, HP.out, HQ.out⟩, HBZ.out⟩
              case measure => simp [intOf]; omega
            · obtain rfl : j = k := by omega
              have hkb : decide ((j : Int) < (j : Int)) = false := by simp
              have hF : F = (List.range j).map P := by have := Flat.all (hP.1.symm ▸ hQ); rwa [hP.1] at this
              rw [hF] at hFR
              have HR := Lib.hid hFR
              clear hFR hP hQ hF
              go_wp2
              go_ret
              exact ⟨_, rfl, Nat.le_refl _, by rw [HPf.out]; exact HR.out, hl⟩
end Go.Proofs.Ytepljdnhnnpdmaa.Wcc
