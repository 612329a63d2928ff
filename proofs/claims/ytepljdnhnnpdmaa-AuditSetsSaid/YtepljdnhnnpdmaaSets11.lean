/-
  The audits of sets and of colours as the law asks them. No condition.
-/
import Derived.Test.YtepljdnhnnpdmaaSets10
import Derived.Test.YtepljdnhnnpdmaaLabels3
set_option linter.unusedVariables false
set_option linter.unusedSimpArgs false
namespace Go.Proofs.Ytepljdnhnnpdmaa.Sets
open Go.RowKit Go.Shelf K Feed Desk Forest Case Rank Labels Cores Faults

structure SetsAt (look : Int × Int → Int → Int → Nat → Int × Int) (f0 : List E3 → Int × Int) (Fp : List E3 → List Nat) (n a c g R : Nat) (l : List S8) (es : List E3) (beh : Int) (w : World) (e : Ending) (w' : World) : Prop where
  val : ∃ r v q, e = .returned (.tuple #[.agg #[.bool r, .int .u32 v, .int .i64 q], .int .i64 (askC (isOrder n a c) n l.length R n beh es)]) ∧
    (askC (isOrder n a c) n l.length R n beh es ≠ 0 → Value.agg #[.bool r, .int .u32 v, .int .i64 q] = .agg #[.bool false, .int .u32 0, .int .i64 0]) ∧
    (askC (isOrder n a c) n l.length R n beh es = 0 → Value.agg #[.bool r, .int .u32 v, .int .i64 q] = verdictOf 0 (notesL look (f0 es) l (Fp es) n))
  room : ∃ V : List Nat, V.length = R ∧ Row w' g 53 (fc V).toArray ∧ ∀ k, n ≤ k → k < R → V[k]? = some 99
  turns : Turns (fun k => k = g) w w'
theorem ind_all (n a c : Nat) (hn : n ≤ 4294967295) (ha : a ≤ 4294967295) (hc : c ≤ 4294967295) (R g lo hi n₀ b0 b1 cap : Nat) (hR5 : R ≤ 5000) (A : Option Addr) (l : List S8) (es : List E3) (beh : Int) (V : List Nat) (hr : es.length * 12 ≤ 140737488351232)
    (w : World) (hA : Lay w n₀ A (svs l)) (hn₀ : n₀ ≤ g) (hF : FeedFrom lo w hi b0 b1 es beh) (hg : g < lo) (hlo : lo ≤ hi) (hhi : hi ≤ w.heap.size)
    (hVl : V.length = R) (hR : Row w g 53 (fc V).toArray) (hV : ∀ k, n ≤ k → k < R → V[k]? = some 99) :
    Calls Try.prog 50 #[.agg #[.int .u32 n, .int .u32 a, .int .u32 c], feedVal b0 b1, .slice A l.length cap, .slice (some ⟨g, 0, none⟩) R R] w (SetsAt lookI' (fun _ => ((0 : Int), (0 : Int))) (foldA l n a c) n a c g R l es beh w) := by
  by_cases h : sitCode (isOrder n a c) l.length n R n = 0
  · obtain ⟨hO, n3, n4⟩ := sit_of h
    have hFR : FRow w g (V.take n) (fc (V.drop n)) := by
      unfold FRow
      have e : fc (V.take n) ++ fc (V.drop n) = fc V := by simp only [fc, ← List.map_append, List.take_append_drop]
      rw [e]; exact hR
    refine (ind_yes n a c R R g lo hi n₀ b0 b1 cap ha hc A l es beh _ _ hr (Nat.le_refl _) hR5 h w hA hn₀ hF hg hlo hhi hFR (by simp; omega)).mono ?_
    rintro e w' ⟨pre, hpre, hall, rfl, ⟨F, hF', hFl⟩, hT⟩
    have hask : askC (isOrder n a c) n l.length R n beh es = oerr n 0 beh es := by
      unfold askC
      rw [if_neg (by rw [h]; simp)]
    obtain ⟨r, v, q, hag⟩ := Labels.verdict_agg (oerr n 0 beh es) (notesL lookI' ((fun _ => ((0 : Int), (0 : Int))) pre) l (foldA l n a c pre) n)
    refine ⟨⟨r, v, q, ?_, ?_, ?_⟩, ⟨F ++ V.drop n, by simp [hFl, hVl]; omega, ?_, fun k hk hkR => ?_⟩, hT⟩
    · rw [hask, hag]
    · intro h0
      rw [hask] at h0
      rw [← hag]
      unfold verdictOf
      rw [if_pos h0]
    · intro h0
      rw [hask] at h0
      rw [← hag, h0, hall h0]
    · have e : fc (F ++ V.drop n) = fc F ++ fc (V.drop n) := by simp [fc]
      rw [e]; exact hF'
    · rw [List.getElem?_append_right (by omega), List.getElem?_drop, show n + (k - F.length) = k by omega]
      exact hV k hk hkR
  · refine (ind_no n a c R R b0 b1 l.length cap hn ha hc A (some ⟨g, 0, none⟩) h w).mono ?_
    rintro e w' ⟨rfl, hb⟩
    have hask : askC (isOrder n a c) n l.length R n beh es = sitCode (isOrder n a c) l.length n R n := by
      unfold askC
      rw [if_pos h]
    exact ⟨⟨false, 0, 0, by rw [hask], fun _ => rfl, fun h0 => absurd (hask ▸ h0) h⟩, ⟨V, hVl, hR.below hb hR.lt, hV⟩, Turns.of_below hb⟩
theorem col_all (n a c : Nat) (hn : n ≤ 4294967295) (ha : a ≤ 4294967295) (hc : c ≤ 4294967295) (R g lo hi n₀ b0 b1 cap : Nat) (hR5 : R ≤ 5000) (A : Option Addr) (l : List S8) (es : List E3) (beh : Int) (V : List Nat) (hr : es.length * 12 ≤ 140737488351232)
    (w : World) (hA : Lay w n₀ A (svs l)) (hn₀ : n₀ ≤ g) (hF : FeedFrom lo w hi b0 b1 es beh) (hg : g < lo) (hlo : lo ≤ hi) (hhi : hi ≤ w.heap.size)
    (hVl : V.length = R) (hR : Row w g 53 (fc V).toArray) (hV : ∀ k, n ≤ k → k < R → V[k]? = some 99) :
    Calls Try.prog 53 #[.agg #[.int .u32 n, .int .u32 a, .int .u32 c], feedVal b0 b1, .slice A l.length cap, .slice (some ⟨g, 0, none⟩) R R] w (SetsAt lookC (noteF l n a c) (foldS l n a c) n a c g R l es beh w) := by
  by_cases h : sitCode (isOrder n a c) l.length n R n = 0
  · obtain ⟨hO, n3, n4⟩ := sit_of h
    have hFR : FRow w g (V.take n) (fc (V.drop n)) := by
      unfold FRow
      have e : fc (V.take n) ++ fc (V.drop n) = fc V := by simp only [fc, ← List.map_append, List.take_append_drop]
      rw [e]; exact hR
    refine (col_yes n a c R R g lo hi n₀ b0 b1 cap ha hc A l es beh _ _ hr (Nat.le_refl _) hR5 h w hA hn₀ hF hg hlo hhi hFR (by simp; omega)).mono ?_
    rintro e w' ⟨pre, hpre, hall, rfl, ⟨F, hF', hFl⟩, hT⟩
    have hask : askC (isOrder n a c) n l.length R n beh es = oerr n 0 beh es := by
      unfold askC
      rw [if_neg (by rw [h]; simp)]
    obtain ⟨r, v, q, hag⟩ := Labels.verdict_agg (oerr n 0 beh es) (notesL lookC ((noteF l n a c) pre) l (foldS l n a c pre) n)
    refine ⟨⟨r, v, q, ?_, ?_, ?_⟩, ⟨F ++ V.drop n, by simp [hFl, hVl]; omega, ?_, fun k hk hkR => ?_⟩, hT⟩
    · rw [hask, hag]
    · intro h0
      rw [hask] at h0
      rw [← hag]
      unfold verdictOf
      rw [if_pos h0]
    · intro h0
      rw [hask] at h0
      rw [← hag, h0, hall h0]
    · have e : fc (F ++ V.drop n) = fc F ++ fc (V.drop n) := by simp [fc]
      rw [e]; exact hF'
    · rw [List.getElem?_append_right (by omega), List.getElem?_drop, show n + (k - F.length) = k by omega]
      exact hV k hk hkR
  · refine (col_no n a c R R b0 b1 l.length cap hn ha hc A (some ⟨g, 0, none⟩) h w).mono ?_
    rintro e w' ⟨rfl, hb⟩
    have hask : askC (isOrder n a c) n l.length R n beh es = sitCode (isOrder n a c) l.length n R n := by
      unfold askC
      rw [if_pos h]
    exact ⟨⟨false, 0, 0, by rw [hask], fun _ => rfl, fun h0 => absurd (hask ▸ h0) h⟩, ⟨V, hVl, hR.below hb hR.lt, hV⟩, Turns.of_below hb⟩
/-- What is meant where an error is not told. -/
theorem ask_order {n a c R : Nat} {l : List S8} {es : List E3} {beh : Int} (h : askC (isOrder n a c) n l.length R n beh es = 0) : isOrder n a c = 0 ∧ (l.length : Int) = n ∧ n ≤ R ∧ ∀ x ∈ es, x.s < n ∧ x.d < n := by
  unfold askC at h
  by_cases h1 : sitCode (isOrder n a c) l.length n R n = 0
  · rw [if_neg (by rw [h1]; simp)] at h
    obtain ⟨n1, n2, n3⟩ := sit_of h1
    exact ⟨n1, n2, n3, (oerr_zero h).2⟩
  · rw [if_pos h1] at h
    exact absurd h h1
end Go.Proofs.Ytepljdnhnnpdmaa.Sets
