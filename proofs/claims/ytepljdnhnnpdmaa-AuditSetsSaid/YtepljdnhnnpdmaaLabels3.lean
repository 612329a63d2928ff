/-
  The audit of components as the law asks it; what the desk holds against the document's list. No condition.
-/
import Derived.Test.YtepljdnhnnpdmaaFaults
import Derived.Test.YtepljdnhnnpdmaaWcc
set_option linter.unusedVariables false
set_option linter.unusedSimpArgs false
namespace Go.Proofs.Ytepljdnhnnpdmaa.Labels
open Go.RowKit Go.Shelf K Feed Desk Forest Case Faults

theorem oerr_zero {n beh : Int} {l : List E3} (h : oerr n 0 beh l = 0) : beh = 0 ∧ ∀ x ∈ l, x.s < n ∧ x.d < n := by
  induction l with
  | nil => exact ⟨h, fun x hx => by cases hx⟩
  | cons a t ih =>
    rw [oerr] at h
    by_cases hw : wrong n 0 a = 0
    · rw [if_pos hw] at h
      refine ⟨(ih h).1, fun x hx => ?_⟩
      rcases List.mem_cons.1 hx with rfl | hx
      · unfold wrong at hw
        by_cases h1 : n ≤ x.s ∨ n ≤ x.d
        · rw [if_pos h1] at hw; cases hw
        · omega
      · exact (ih h).2 x hx
    · rw [if_neg hw] at h; exact absurd h hw
/-- What the document's truth is, as its words. -/
def truth (es : List E3) (n : Nat) : List Int := (List.range n).map fun v => ((foldP es v : Nat) : Int)
theorem truth_get (es : List E3) {n v : Nat} (h : v < n) : (truth es n).getD v 0 = ((foldP es v : Nat) : Int) := by simp [truth, List.getD_eq_getElem?_getD, h]
theorem truth_fc (es : List E3) (n : Nat) : (fc ((List.range n).map (foldP es)) ++ []).toArray = ((truth es n).map (Value.int .u64)).toArray := by simp [fc, truth, Function.comp_def]
theorem notes_found (es : List E3) (l : List S8) (n : Nat) : ∀ i, i ≤ n → FoundIs (notes (foldP es) l i) (wordN l (truth es n) 0 i) := by
  intro i
  induction i with
  | zero => exact fun _ => found_zero.iff fun v r => ⟨fun h => h.elim, fun h => absurd h.1 (Nat.not_lt_zero _)⟩
  | succ i ih =>
    intro hi
    rw [notes]
    have h := (ih (by omega)).note i 1 (by decide) ((l.getD i zero8).at 0 != ((foldP es i : Nat) : Int))
    refine h.iff fun v r => ?_
    rw [← truth_get es (show i < n by omega)]
    exact wordN_next l (truth es n) 0 i v r
/-- What the audit answers, and what it leaves of the room. -/
structure AuditAt (n : Int) (g R : Nat) (l : List S8) (es : List E3) (beh : Int) (w : World) (e : Ending) (w' : World) : Prop where
  val : ∃ r v q, e = .returned (.tuple #[.agg #[.bool r, .int .u32 v, .int .i64 q], .int .i64 (askC (madeCode n) n l.length R n beh es)]) ∧
    (askC (madeCode n) n l.length R n beh es ≠ 0 → Value.agg #[.bool r, .int .u32 v, .int .i64 q] = .agg #[.bool false, .int .u32 0, .int .i64 0]) ∧
    (askC (madeCode n) n l.length R n beh es = 0 → Value.agg #[.bool r, .int .u32 v, .int .i64 q] = verdictOf 0 (notes (foldP es) l n.toNat))
  room : ∃ cs : List Value, Row w' g 53 cs.toArray ∧ ∀ k, n.toNat ≤ k → k < R → cs[k]? = some (.int .u64 99)
  turns : Turns (fun k => k = g) w w'
theorem labels_all (n : Int) (hn : 0 ≤ n ∧ n ≤ 4294967295) (R g lo hi n₀ b0 b1 cap : Nat) (A : Option Addr) (l : List S8) (es : List E3) (beh : Int) (hr : es.length * 12 ≤ 140737488351232)
    (w : World) (hA : Lay w n₀ A (svs l)) (hn₀ : n₀ ≤ g) (hF : FeedFrom lo w hi b0 b1 es beh) (hg : g < lo) (hlo : lo ≤ hi) (hhi : hi ≤ w.heap.size)
    (hR : Row w g 53 (List.replicate R (Value.int .u64 99)).toArray) :
    Calls Try.prog 39 #[.int .u32 n, feedVal b0 b1, .slice A l.length cap, .slice (some ⟨g, 0, none⟩) R R] w (AuditAt n g R l es beh w) := by
  obtain ⟨m, rfl⟩ := Int.eq_ofNat_of_zero_le hn.1
  by_cases h : sitCode (madeCode (m : Int)) l.length m R m = 0
  · obtain ⟨n1, n2, n3, n4⟩ := sized_of h
    have hsplit : List.replicate R (Value.int .u64 99) = List.replicate m (Value.int .u64 99) ++ List.replicate (R - m) (Value.int .u64 99) := by
      rw [List.replicate_append_replicate]; congr 1; omega
    rw [hsplit] at hR
    refine (labels_yes m R R g lo hi n₀ b0 b1 cap A l es beh _ _ hr (Nat.le_refl _) h w hA hn₀ hF hg hlo hhi hR (List.length_replicate)).mono ?_
    rintro e w' ⟨pre, hpre, hall, rfl, ⟨F, hFR, hFl⟩, hT⟩
    have hask : askC (madeCode (m : Int)) m l.length R m beh es = oerr m 0 beh es := by
      unfold askC
      rw [if_neg (by rw [h]; simp)]
    obtain ⟨r, v, q, hag⟩ := Labels.verdict_agg (oerr m 0 beh es) (notes (foldP pre) l m)
    refine ⟨⟨r, v, q, ?_, ?_, ?_⟩, ?_, hT⟩
    · rw [hask, hag]
    · intro h0
      rw [hask] at h0
      rw [← hag]
      unfold verdictOf
      rw [if_pos h0]
    · intro h0
      rw [hask] at h0
      rw [← hag, h0, hall h0, Int.toNat_natCast]
    · refine ⟨_, hFR, fun k hk hkR => ?_⟩
      rw [Int.toNat_natCast] at hk
      rw [List.getElem?_append_right (by simp [fc]; omega), List.getElem?_replicate, if_pos (by simp [fc]; omega)]
  · refine (labels_no (m : Int) hn b0 b1 A (some ⟨g, 0, none⟩) l.length cap R R h w).mono ?_
    rintro e w' ⟨rfl, hb⟩
    have hask : askC (madeCode (m : Int)) m l.length R m beh es = sitCode (madeCode (m : Int)) l.length m R m := by
      unfold askC
      rw [if_pos h]
    refine ⟨⟨false, 0, 0, by rw [hask], fun _ => rfl, fun h0 => absurd (hask ▸ h0) h⟩, ⟨_, hR.below hb hR.lt, fun k hk hkR => ?_⟩, Turns.of_below hb⟩
    rw [List.getElem?_replicate, if_pos hkR]
/-- What is meant where an error is not told. -/
theorem ask_zero {n : Int} {R : Nat} {l : List S8} {es : List E3} {beh : Int} (hn : 0 ≤ n ∧ n ≤ 4294967295) (h : askC (madeCode n) n l.length R n beh es = 0) :
    1 ≤ n ∧ (l.length : Int) = n ∧ n ≤ R ∧ ∀ x ∈ es, x.s < n ∧ x.d < n := by
  obtain ⟨m, rfl⟩ := Int.eq_ofNat_of_zero_le hn.1
  unfold askC at h
  by_cases h1 : sitCode (madeCode (m : Int)) l.length m R m = 0
  · rw [if_neg (by rw [h1]; simp)] at h
    obtain ⟨n1, n2, n3, n4⟩ := sized_of h1
    exact ⟨by omega, by omega, by omega, (oerr_zero h).2⟩
  · rw [if_pos h1] at h
    exact absurd h h1
end Go.Proofs.Ytepljdnhnnpdmaa.Labels
