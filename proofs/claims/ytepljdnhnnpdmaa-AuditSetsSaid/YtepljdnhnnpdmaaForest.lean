/-
  A forest of vertices: the root of each; the way to it shortened; two trees made one. Then the program's and the document's walks over it. No condition.
-/
import Derived.Test.YtepljdnhnnpdmaaDesk
set_option linter.unusedVariables false
set_option linter.unusedSimpArgs false
namespace Go.Proofs.Ytepljdnhnnpdmaa.Forest
open Go.RowKit Go.Shelf K Feed Desk

/-! ### plain -/
inductive Root (F : List Nat) : Nat → Nat → Prop
  | here {v : Nat} : F[v]? = some v → Root F v v
  | up {v u r : Nat} : F[v]? = some u → u < v → Root F u r → Root F v r
def Rep (F : List Nat) (P : Nat → Nat) (n : Nat) : Prop := F.length = n ∧ ∀ v, v < n → Root F v (P v)
section
variable {F : List Nat} {P : Nat → Nat} {n v u u2 r r' a b : Nat}
theorem root_at (h : Root F v r) : F[r]? = some r := by
  induction h with
  | here h => exact h
  | up _ _ _ ih => exact ih
theorem root_le (h : Root F v r) : r ≤ v := by
  induction h with
  | here h => exact Nat.le_refl _
  | up _ h1 _ ih => omega
theorem root_unique (h : Root F v r) : ∀ {r'}, Root F v r' → r = r' := by
  induction h with
  | here h =>
    intro r' h'
    cases h' with
    | here _ => rfl
    | up h1 h2 _ => rw [h] at h1; cases h1; omega
  | up h1 h2 h3 ih =>
    intro r' h'
    cases h' with
    | here h4 => rw [h1] at h4; cases h4; omega
    | up h4 h5 h6 => rw [h1] at h4; cases h4; exact ih h6
theorem Rep.get (h : Rep F P n) (hv : v < n) : ∃ u, F[v]? = some u ∧ u ≤ v ∧ P u = P v ∧ (u = v → P v = v) := by
  have h1 := h.2 v hv
  generalize hr : P v = r at h1
  cases h1 with
  | here h2 => exact ⟨v, h2, Nat.le_refl _, hr, fun _ => rfl⟩
  | up h2 h3 h4 => exact ⟨_, h2, by omega, root_unique (h.2 _ (by omega)) h4, fun e => by omega⟩
theorem Rep.lt (h : Rep F P n) (hv : v < n) : P v < n := Nat.lt_of_le_of_lt (root_le (h.2 v hv)) hv
theorem Rep.halve (h : Rep F P n) (hv : v < n) (h1 : F[v]? = some u) (h2 : u < v) (h3 : F[u]? = some u2) (h4 : u2 ≤ u) : Rep (F.set v u2) P n := by
  refine ⟨by rw [List.length_set]; exact h.1, fun x hx => ?_⟩
  have key : ∀ {x r}, Root F x r → Root (F.set v u2) x r := by
    intro x r hr
    induction hr with
    | @here x h5 =>
      have hne : v ≠ x := by intro e; subst e; rw [h1] at h5; cases h5; omega
      exact .here (by rw [List.getElem?_set_ne hne]; exact h5)
    | @up x y r h5 h6 h7 ih =>
      by_cases e : v = x
      · subst e
        obtain rfl : u = y := by rw [h1] at h5; cases h5; rfl
        have hu : (F.set v u2)[u]? = some u2 := by rw [List.getElem?_set_ne (by omega)]; exact h3
        have hvv : (F.set v u2)[v]? = some u2 := by rw [List.getElem?_set_self (by rw [h.1]; exact hv)]
        cases ih with
        | here h8 =>
          rw [hu] at h8
          cases h8
          exact .up hvv (by omega) (.here hu)
        | up h8 h9 h10 =>
          rw [hu] at h8
          cases h8
          exact .up hvv (by omega) h10
      · exact .up (by rw [List.getElem?_set_ne e]; exact h5) h6 ih
  exact key (h.2 x hx)
def joinP (P : Nat → Nat) (a b : Nat) : Nat → Nat := fun v => if P v = max (P a) (P b) then min (P a) (P b) else P v
theorem Rep.join (h : Rep F P n) (ha : a < n) (hb : b < n) : Rep (F.set (max (P a) (P b)) (min (P a) (P b))) (joinP P a b) n := by
  have ra := root_at (h.2 a ha)
  have rb := root_at (h.2 b hb)
  obtain ⟨m, hm⟩ : ∃ m, m = max (P a) (P b) := ⟨_, rfl⟩
  obtain ⟨k, hk⟩ : ∃ k, k = min (P a) (P b) := ⟨_, rfl⟩
  have rm : F[m]? = some m := by rcases Nat.le_total (P a) (P b) with g | g <;> simp [hm, Nat.max_eq_right, Nat.max_eq_left, g, ra, rb]
  have rk : F[k]? = some k := by rcases Nat.le_total (P a) (P b) with g | g <;> simp [hk, Nat.min_eq_right, Nat.min_eq_left, g, ra, rb]
  have hkm : k ≤ m := by omega
  have hml : m < F.length := (List.getElem?_eq_some_iff.1 rm).1
  refine ⟨by rw [List.length_set]; exact h.1, fun x hx => ?_⟩
  unfold joinP
  rw [← hm, ← hk]
  have hmm : (F.set m k)[m]? = some k := by rw [List.getElem?_set_self hml]
  have key : ∀ {x r}, Root F x r → Root (F.set m k) x (if r = m then k else r) := by
    intro x r hr
    induction hr with
    | @here x h5 =>
      by_cases e : x = m
      · rw [if_pos e]
        subst e
        by_cases e2 : k = x
        · rw [e2] at hmm ⊢
          exact .here hmm
        · exact .up hmm (by omega) (.here (by rw [List.getElem?_set_ne (by omega)]; exact rk))
      · rw [if_neg e]
        exact .here (by rw [List.getElem?_set_ne (fun e' => e e'.symm)]; exact h5)
    | @up x y r h5 h6 h7 ih =>
      have e : m ≠ x := by intro e; subst e; rw [rm] at h5; cases h5; omega
      exact .up (by rw [List.getElem?_set_ne e]; exact h5) h6 ih
  exact key (h.2 x hx)
theorem rep_range (n : Nat) : Rep (List.range n) (fun v => v) n := ⟨by simp, fun v hv => .here (by simp [hv])⟩
end

/-! ### in memory -/
def fc (F : List Nat) : List Value := F.map fun (x : Nat) => Value.int .u64 (x : Int)
def FRow (W : World) (g : Nat) (F : List Nat) (rest : List Value) : Prop := Row W g 53 (fc F ++ rest).toArray
theorem FRow.get {W : World} {g : Nat} {F : List Nat} {rest : List Value} (h : FRow W g F rest) {v u : Nat} (hv : F[v]? = some u) : W.cell? ⟨g, v, none⟩ = some (.int .u64 u) := by
  refine Row.get h ?_
  have hl := (List.getElem?_eq_some_iff.1 hv).1
  rw [List.getElem?_toArray, List.getElem?_append_left (by simpa [fc] using hl), fc, List.getElem?_map, hv]
  rfl
theorem FRow.set {W : World} {g : Nat} {F : List Nat} {rest : List Value} (h : FRow W g F rest) {v u : Nat} (hv : v < F.length) : FRow (W.setCell ⟨g, v, none⟩ (.int .u64 u)) g (F.set v u) rest := by
  have := Row.set h v (.int .u64 u)
  unfold FRow
  simp only [List.setIfInBounds_toArray] at this
  rw [List.set_append, if_pos (by simpa [fc] using hv)] at this
  have e : (fc F).set v (.int .u64 u) = fc (F.set v u) := by simp [fc, List.map_set]
  rwa [e] at this
def RelR (P : Nat → Nat) (n g : Nat) (rest : List Value) (v : Nat) (w : World) (x : Value) (wr : World) : Prop :=
  ∃ (y : Nat) (F : List Nat), y < n ∧ x = .int .u64 y ∧ FRow wr g F rest ∧ Rep F P n ∧ P y = P v ∧ Turns (fun k => k = g) w wr
def RootPost (P : Nat → Nat) (n g : Nat) (rest : List Value) (v : Nat) (w : World) (e : Ending) (w' : World) : Prop :=
  e = .returned (.int .u64 (P v : Nat)) ∧ (∃ F, FRow w' g F rest ∧ Rep F P n) ∧ Turns (fun k => k = g) w w'
set_option maxRecDepth 100000 in
set_option maxHeartbeats 1000000 in
theorem root (P : Nat → Nat) (n g cap : Nat) (rest : List Value) (F : List Nat) (v : Nat) (hv : v < n) (hn : n ≤ 4294967295) (w : World) (hR : FRow w g F rest) (hP : Rep F P n) :
    Calls Try.prog 76 #[.slice (some ⟨g, 0, none⟩) n cap, .int .u64 v] w (RootPost P n g rest v w) := by
  go_enter Try.func76, Try.ntmps76
  go_wp2
  go_loopw [1] (fun x wr => RelR P n g rest v w x wr) (fun x _ => (intOf x).toNat)
  case atStart => exact ⟨v, F, hv, rfl, hR, hP, rfl, Turns.refl _ _⟩
  case round =>
    clear hR hP F
    obtain ⟨y, F, hy, rfl, hr, hp, he, ht⟩ := hrel
    obtain ⟨u, hu, hle, hPu, hroot⟩ := hp.get hy
    have c0 := hr.get hu
    have d0 : (0 : Int) ≤ (y : Int) := by omega
    have d1 : (y : Int) < (n : Int) := by omega
    have HR := Lib.hid hr
    have HP := Lib.hid hp
    have HE := Lib.hid he
    have HT := Lib.hid ht
    have HU := Lib.hid hu
    have HPu := Lib.hid hPu
    clear hr hp he ht hu hPu
    by_cases e : u = y
    · have HRo := Lib.hid (hroot e)
      clear hroot
      subst e
      go_wp2
      go_ret
      exact ⟨by rw [← HE.out, HRo.out]; rfl, ⟨F, HR.out, HP.out⟩, HT.out⟩
    · clear hroot
      have g1 : ((u : Int) != (y : Int)) = true := by simp; omega
      have hlt : u < y := by omega
      obtain ⟨u2, hu2, hle2, hPu2, -⟩ := HP.out.get (v := u) (by omega)
      have c1 := HR.out.get hu2
      have f0 := Row.free HR.out y
      have d2 : (0 : Int) ≤ (u : Int) := by omega
      have d3 : (u : Int) < (n : Int) := by omega
      have HU2 := Lib.hid hu2
      have HPu2 := Lib.hid hPu2
      clear hu2 hPu2 e
      go_wp2
      go_roundw
      case rel => exact ⟨u2, _, by omega, rfl, HR.out.set (by rw [HP.out.1]; exact hy), HP.out.halve hy HU.out hlt HU2.out hle2, by rw [HPu2.out, HPu.out, HE.out], HT.out.setCell (p := ⟨g, y, none⟩) rfl _⟩
      case measure => simp [intOf]; omega
set_option maxRecDepth 100000 in
set_option maxHeartbeats 1000000 in
theorem refRoot (P : Nat → Nat) (n g cap : Nat) (rest : List Value) (F : List Nat) (v : Nat) (hv : v < n) (hn : n ≤ 4294967295) (w : World) (hR : FRow w g F rest) (hP : Rep F P n) :
    Calls Try.prog 82 #[.slice (some ⟨g, 0, none⟩) n cap, .int .u64 v] w (RootPost P n g rest v w) := by
  go_enter Try.func82, Try.ntmps82
  go_wp2
  go_loopw [1] (fun x wr => RelR P n g rest v w x wr) (fun x _ => (intOf x).toNat)
  case atStart => exact ⟨v, F, hv, rfl, hR, hP, rfl, Turns.refl _ _⟩
  case round =>
    clear hR hP F
    obtain ⟨y, F, hy, rfl, hr, hp, he, ht⟩ := hrel
    obtain ⟨u, hu, hle, hPu, hroot⟩ := hp.get hy
    have c0 := hr.get hu
    have d0 : (0 : Int) ≤ (y : Int) := by omega
    have d1 : (y : Int) < (n : Int) := by omega
    have HR := Lib.hid hr
    have HP := Lib.hid hp
    have HE := Lib.hid he
    have HT := Lib.hid ht
    have HU := Lib.hid hu
    have HPu := Lib.hid hPu
    clear hr hp he ht hu hPu
    by_cases e : u = y
    · have HRo := Lib.hid (hroot e)
      clear hroot
      subst e
      go_wp2
      go_ret
      exact ⟨by rw [← HE.out, HRo.out]; rfl, ⟨F, HR.out, HP.out⟩, HT.out⟩
    · clear hroot
      have g1 : ((u : Int) != (y : Int)) = true := by simp; omega
      have hlt : u < y := by omega
      obtain ⟨u2, hu2, hle2, hPu2, -⟩ := HP.out.get (v := u) (by omega)
      have c1 := HR.out.get hu2
      have f0 := Row.free HR.out y
      have d2 : (0 : Int) ≤ (u : Int) := by omega
      have d3 : (u : Int) < (n : Int) := by omega
      have HU2 := Lib.hid hu2
      have HPu2 := Lib.hid hPu2
      clear hu2 hPu2 e
      go_wp2
      go_roundw
      case rel => exact ⟨u2, _, by omega, rfl, HR.out.set (by rw [HP.out.1]; exact hy), HP.out.halve hy HU.out hlt HU2.out hle2, by rw [HPu2.out, HPu.out, HE.out], HT.out.setCell (p := ⟨g, y, none⟩) rfl _⟩
      case measure => simp [intOf]; omega

theorem max_if' (a b : Nat) : (if a < b then (b : Int) else (a : Int)) = ((max a b : Nat) : Int) := by split <;> omega
theorem min_if' (a b : Nat) : (if b < a then (b : Int) else (a : Int)) = ((min a b : Nat) : Int) := by split <;> omega
def JoinPost (P : Nat → Nat) (n g : Nat) (rest : List Value) (w : World) (e : Ending) (w' : World) : Prop := e = .returned (.tuple #[]) ∧ (∃ F, FRow w' g F rest ∧ Rep F P n) ∧ Turns (fun k => k = g) w w'
theorem max_if (a b : Nat) : (if (a : Int) < (b : Int) then (b : Int) else (a : Int)) = ((max a b : Nat) : Int) := by split <;> omega
theorem min_if (a b : Nat) : (if (b : Int) < (a : Int) then (b : Int) else (a : Int)) = ((min a b : Nat) : Int) := by split <;> omega
set_option maxRecDepth 100000 in
set_option maxHeartbeats 1000000 in
theorem join (P : Nat → Nat) (n g cap : Nat) (rest : List Value) (F : List Nat) (a b : Nat) (ha : a < n) (hb : b < n) (hn : n ≤ 4294967295) (w : World) (hR : FRow w g F rest) (hP : Rep F P n) :
    Calls Try.prog 72 #[.slice (some ⟨g, 0, none⟩) n cap, .int .u64 a, .int .u64 b] w (JoinPost (joinP P a b) n g rest w) := by
  have H1 := Lib.hid (root P n g cap rest F a ha hn w hR hP)
  have HB := Lib.hid (fun F' W (h : FRow W g F' rest) (h' : Rep F' P n) => root P n g cap rest F' b hb hn W h h')
  have HA := Lib.hid ha
  have HBB := Lib.hid hb
  clear hR hP F ha hb
  go_enter Try.func72, Try.ntmps72
  go_wp2_with fail
  refine H1.out.mono ?_
  rintro e w1 ⟨rfl, ⟨F1, hr1, hp1⟩, ht1⟩
  go_wp2_with fail
  refine (HB.out F1 w1 hr1 hp1).mono ?_
  rintro e w2 ⟨rfl, ⟨F2, hr2, hp2⟩, ht2⟩
  obtain ⟨m, hm⟩ : ∃ m, max (P a) (P b) = m := ⟨_, rfl⟩
  obtain ⟨k, hk⟩ : ∃ k, min (P a) (P b) = k := ⟨_, rfl⟩
  have hj := hp2.join HA.out HBB.out
  have hml : m < n := by have := hp2.lt HA.out; have := hp2.lt HBB.out; omega
  have e1 := max_if (P a) (P b)
  have e2 := min_if (P a) (P b)
  have e3 := max_if' (P a) (P b)
  have e4 := min_if' (P a) (P b)
  rw [hm] at e1 e3 hj
  rw [hk] at e2 e4 hj
  obtain ⟨u, hu⟩ : ∃ u, F2[m]? = some u := ⟨_, List.getElem?_eq_getElem (by rw [hp2.1]; exact hml)⟩
  have c0 := hr2.get hu
  have f0 := Row.free hr2 m
  have d0 : (0 : Int) ≤ (m : Int) := by omega
  have d1 : (m : Int) < (n : Int) := by omega
  have HJ := Lib.hid hj
  have HR2 := Lib.hid hr2
  have HT := Lib.hid (ht1.trans ht2)
  have HL := Lib.hid hp2.1
  have HM := Lib.hid hml
  clear hj hr2 hr1 hp1 hp2 ht1 ht2 hm hk hu hml
  go_wp2
  go_end0
  exact ⟨rfl, ⟨_, HR2.out.set (by rw [HL.out]; exact HM.out), HJ.out⟩, HT.out.setCell (p := ⟨g, m, none⟩) rfl _⟩
def RelN (n g : Nat) (rest : List Value) (w : World) (i : Value) (wr : World) : Prop :=
  ∃ k : Nat, k ≤ n ∧ i = .int .i64 k ∧ (∃ cs : List Value, cs.length = n ∧ Row wr g 53 (cs ++ rest).toArray ∧ cs.take k = fc (List.range k)) ∧ Turns (fun k => k = g) w wr
set_option maxRecDepth 100000 in
set_option maxHeartbeats 1000000 in
theorem newForest (n g cap : Nat) (rest cs : List Value) (hn : n ≤ 4294967295) (hc : cs.length = n) (w : World) (hR : Row w g 53 (cs ++ rest).toArray) :
    Calls Try.prog 69 #[.slice (some ⟨g, 0, none⟩) n cap] w fun e w' => e = .returned (.slice (some ⟨g, 0, none⟩) n cap) ∧ FRow w' g (List.range n) rest ∧ Turns (fun k => k = g) w w' := by
  go_enter Try.func69, Try.ntmps69
  go_wp2
  go_loopw [6] (fun i wr => RelN n g rest w i wr) (fun i _ => n - (intOf i).toNat)
  case atStart => exact ⟨0, Nat.zero_le _, rfl, ⟨cs, hc, hR, rfl⟩, Turns.refl _ _⟩
  case round =>
    clear hR hc cs
    obtain ⟨k, hk, rfl, ⟨cs, hl, hr, htk⟩, ht⟩ := hrel
    have HR := Lib.hid hr
    have HT := Lib.hid ht
    have HK := Lib.hid htk
    have HL := Lib.hid hl
    clear hr ht htk hl
    rcases Nat.lt_or_ge k n with hlt | hge
    · have c0 : wr.cell? ⟨g, k, none⟩ = some (cs.getD k undef) := Row.get HR.out (by rw [List.getElem?_toArray, List.getElem?_append_left (by rw [HL.out]; exact hlt), List.getD_eq_getElem?_getD, List.getElem?_eq_getElem (by rw [HL.out]; exact hlt)]; rfl)
      have f0 := Row.free HR.out k
      have d0 : (0 : Int) ≤ (k : Int) := by omega
      have d1 : (k : Int) < (n : Int) := by omega
      go_wp2
      go_roundw
      case rel =>
        refine ⟨k + 1, by omega, by go_num, ⟨cs.set k (.int .u64 (k : Int)), by rw [List.length_set]; exact HL.out, ?_, ?_⟩, HT.out.setCell (p := ⟨g, k, none⟩) rfl _⟩
        · have := Row.set HR.out k (.int .u64 (k : Int))
          simp only [List.setIfInBounds_toArray] at this
          rw [List.set_append, if_pos (by rw [HL.out]; exact hlt)] at this
          exact this
        · have hkl : k < (cs.set k (.int .u64 (k : Int))).length := by rw [List.length_set, HL.out]; exact hlt
          rw [List.take_succ_eq_append_getElem hkl, List.getElem_set_self, List.take_set_of_le (Nat.le_refl _), HK.out]
          simp [fc, List.range_succ]
      case measure => simp [intOf]; omega
    · obtain rfl : k = n := by omega
      go_wp2
      go_ret
      have e := HK.out
      rw [List.take_of_length_le (by rw [HL.out]; exact Nat.le_refl _)] at e
      refine ⟨rfl, ?_, HT.out⟩
      have h := HR.out
      rw [e] at h
      exact h
end Go.Proofs.Ytepljdnhnnpdmaa.Forest
