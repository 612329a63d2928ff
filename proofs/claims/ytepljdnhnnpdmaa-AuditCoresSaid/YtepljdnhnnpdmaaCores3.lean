/-
  The audit of cores where it is not let by; and the whole as the law asks it. No condition.
-/
import Derived.Test.YtepljdnhnnpdmaaCores2
import Derived.Test.YtepljdnhnnpdmaaFaults
set_option linter.unusedVariables false
set_option linter.unusedSimpArgs false
namespace Go.Proofs.Ytepljdnhnnpdmaa.Cores
open Go.RowKit Go.Shelf K Feed Desk Forest Case Peel Labels Faults

set_option maxRecDepth 100000 in
set_option maxHeartbeats 2000000 in
theorem cores_no (n : Int) (hn : 0 ≤ n ∧ n ≤ 4294967295) (b0 b1 : Nat) (A RA : Option Addr) (len cap R rcap : Nat) (h : sitCode (madeCode n) len n R (2 * n) ≠ 0) (w : World) :
    Calls Try.prog 48 #[.int .u32 n, feedVal b0 b1, .slice A len cap, .slice RA R rcap] w fun e w' =>
      e = .returned (.tuple #[.agg #[.bool false, .int .u32 0, .int .i64 0], .int .i64 (sitCode (madeCode n) len n R (2 * n))]) ∧ Below w.heap.size w w' := by
  have hs := Lib.hid (fun W => sit_no n 0 b0 b1 A len cap R (2 * n) _ hn h W)
  have R8 := Lib.hid (Row.new w 79 #[.bool false, .int .u32 0, .int .i64 0])
  have B8 := Lib.hid ((Below.refl w.heap.size w).alloc (Nat.le_refl _) (.cells #[.bool false, .int .u32 0, .int .i64 0] 79))
  obtain ⟨c, hc⟩ : ∃ c, sitCode (madeCode n) len n R (2 * n) = c := ⟨_, rfl⟩
  have hne : (c != 0) = true := by rw [← hc]; simpa using h
  rw [hc] at hs ⊢
  clear h hc
  have hv0 := R8.out.get (i := 0) rfl
  have hv1 := R8.out.get (i := 1) rfl
  have hv2 := R8.out.get (i := 2) rfl
  have hf0 := R8.out.free 0
  have hf1 := R8.out.free 1
  have hf2 := R8.out.free 2
  have RZ := Lib.hid (R8.out.alloc (.cells #[.pointer none] 107))
  have BZ := Lib.hid (B8.out.alloc (by simp) (.cells #[.pointer none] 107))
  have hb2 : (2 : Int) * n ≤ 8589934590 := by omega
  have hb3 : (0 : Int) ≤ (2 : Int) * n := by omega
  simp only [List.getElem_toArray, List.getElem_cons_zero, List.getElem_cons_succ] at hv0 hv1 hv2
  by_cases g1 : n < 1
  · have hm : madeCode n = 2 := by unfold madeCode; rw [if_pos (.inl g1)]
    rw [hm] at hs
    have t1 : decide (n < 1) = true := decide_eq_true g1
    clear hm
    go_enter Try.func48, Try.ntmps48
    go_wp2_with fail
    go_step3
    go_wp2_with fail
    refine (hs.out _).mono ?_
    rintro e w2 ⟨rfl, rfl⟩
    go_wp2
    rw [Exit.noGoto_ret]
    exact bodyPost_ret (retc_ver rfl rfl RZ.out) rfl ⟨rfl, BZ.out⟩
  have t1 : decide (n < 1) = false := decide_eq_false g1
  by_cases g2 : 2147483647 < n
  · have hm : madeCode n = 2 := by unfold madeCode; rw [if_pos (.inr g2)]
    rw [hm] at hs
    have t2 : decide (2147483647 < n) = true := decide_eq_true g2
    clear hm
    go_enter Try.func48, Try.ntmps48
    go_wp2_with fail
    go_step3
    go_wp2_with fail
    refine (hs.out _).mono ?_
    rintro e w2 ⟨rfl, rfl⟩
    go_wp2
    rw [Exit.noGoto_ret]
    exact bodyPost_ret (retc_ver rfl rfl RZ.out) rfl ⟨rfl, BZ.out⟩
  · have hm : madeCode n = 0 := by unfold madeCode; rw [if_neg (by omega)]
    rw [hm] at hs
    have t2 : decide (2147483647 < n) = false := decide_eq_false g2
    clear hm
    go_enter Try.func48, Try.ntmps48
    go_wp2_with fail
    go_step3
    go_wp2_with fail
    refine (hs.out _).mono ?_
    rintro e w2 ⟨rfl, rfl⟩
    go_wp2
    rw [Exit.noGoto_ret]
    exact bodyPost_ret (retc_ver rfl rfl RZ.out) rfl ⟨rfl, BZ.out⟩
/-- What the audit answers, and what it leaves of the room. -/
structure CoresAt (n : Int) (g R : Nat) (l : List S8) (es : List E3) (beh : Int) (w : World) (e : Ending) (w' : World) : Prop where
  val : ∃ r v q, e = .returned (.tuple #[.agg #[.bool r, .int .u32 v, .int .i64 q], .int .i64 (askC (madeCode n) n l.length R (2 * n) beh es)]) ∧
    (askC (madeCode n) n l.length R (2 * n) beh es ≠ 0 → Value.agg #[.bool r, .int .u32 v, .int .i64 q] = .agg #[.bool false, .int .u32 0, .int .i64 0]) ∧
    (askC (madeCode n) n l.length R (2 * n) beh es = 0 → ∃ s, Reached es n.toNat s ∧ s.2.length = n.toNat ∧ s.2.count 0 = 0 ∧ Value.agg #[.bool r, .int .u32 v, .int .i64 q] = verdictOf 0 (notes (fun v => s.2.getD v 0 - 1) l n.toNat))
  room : ∃ cs : List Value, Row w' g 53 cs.toArray ∧ ∀ k, n.toNat + n.toNat ≤ k → k < R → cs[k]? = some (.int .u64 99)
  turns : Turns (fun k => k = g) w w'
theorem cores_all (n : Int) (hn : 0 ≤ n ∧ n ≤ 4294967295) (R g lo hi n₀ b0 b1 cap : Nat) (hR5 : R ≤ 5000) (A : Option Addr) (l : List S8) (es : List E3) (beh : Int) (hr : es.length * 12 ≤ 140737488351232)
    (w : World) (hA : Lay w n₀ A (svs l)) (hn₀ : n₀ ≤ g) (hF : FeedFrom lo w hi b0 b1 es beh) (hg : g < lo) (hlo : lo ≤ hi) (hhi : hi ≤ w.heap.size)
    (hR : Row w g 53 (List.replicate R (Value.int .u64 99)).toArray) :
    Calls Try.prog 48 #[.int .u32 n, feedVal b0 b1, .slice A l.length cap, .slice (some ⟨g, 0, none⟩) R R] w (CoresAt n g R l es beh w) := by
  obtain ⟨m, rfl⟩ := Int.eq_ofNat_of_zero_le hn.1
  by_cases h : sitCode (madeCode (m : Int)) l.length m R (2 * m) = 0
  · obtain ⟨n1, n2, n3, n4⟩ : 1 ≤ m ∧ m ≤ 2147483647 ∧ (l.length : Int) = m ∧ m + m ≤ R := by
      have h' := h
      unfold sitCode madeCode at h'
      by_cases h1 : (m : Int) < 1 ∨ 2147483647 < (m : Int)
      · rw [if_pos h1] at h'; simp at h'
      rw [if_neg h1] at h'
      by_cases h2 : (l.length : Int) ≠ m
      · simp [h2] at h'
      by_cases h3 : (R : Int) < 2 * m
      · exfalso; simp only [ne_eq, not_true_eq_false, if_false] at h'; rw [if_neg h2, if_pos h3] at h'; cases h'
      omega
    have hsplit : (List.replicate R (Value.int .u64 99)) = fc (List.replicate m 99 ++ List.replicate m 99) ++ List.replicate (R - (m + m)) (Value.int .u64 99) := by
      simp only [fc, List.map_append, List.map_replicate]
      rw [List.replicate_append_replicate, show (((99 : Nat) : Int)) = 99 from rfl, List.replicate_append_replicate]
      congr 1; omega
    have hFR : FRow w g (List.replicate m 99 ++ List.replicate m 99) (List.replicate (R - (m + m)) (Value.int .u64 99)) := by unfold FRow; rw [← hsplit]; exact hR
    refine (cores_yes m R R g lo hi n₀ b0 b1 cap A l es beh _ _ _ hr (Nat.le_refl _) (by omega) n1 (by omega) n4 w hA hn₀ hF hg hlo hhi hFR (by simp) (by simp)).mono ?_
    rintro e w' ⟨f, hf, rfl, ⟨F, hF', hFl⟩, hT⟩
    have hask : askC (madeCode (m : Int)) m l.length R (2 * m) beh es = oerr m 0 beh es := by
      unfold askC
      rw [if_neg (by rw [h]; simp)]
    obtain ⟨r, v, q, hag⟩ := Labels.verdict_agg (oerr m 0 beh es) f
    refine ⟨⟨r, v, q, ?_, ?_, ?_⟩, ?_, hT⟩
    · rw [hask, hag]
    · intro h0
      rw [hask] at h0
      rw [← hag]
      unfold verdictOf
      rw [if_pos h0]
    · intro h0
      rw [hask] at h0
      obtain ⟨s, s1, s2, s3, s4⟩ := hf h0
      rw [Int.toNat_natCast]
      exact ⟨s, s1, s2, s3, by rw [← hag, h0, s4]⟩
    · refine ⟨_, hF', fun k hk hkR => ?_⟩
      rw [Int.toNat_natCast] at hk
      rw [List.getElem?_append_right (by simp [fc]; omega), List.getElem?_replicate, if_pos (by simp [fc]; omega)]
  · refine (cores_no (m : Int) hn b0 b1 A (some ⟨g, 0, none⟩) l.length cap R R h w).mono ?_
    rintro e w' ⟨rfl, hb⟩
    have hask : askC (madeCode (m : Int)) m l.length R (2 * m) beh es = sitCode (madeCode (m : Int)) l.length m R (2 * m) := by
      unfold askC
      rw [if_pos h]
    refine ⟨⟨false, 0, 0, by rw [hask], fun _ => rfl, fun h0 => absurd (hask ▸ h0) h⟩, ⟨_, hR.below hb hR.lt, fun k hk hkR => ?_⟩, Turns.of_below hb⟩
    rw [List.getElem?_replicate, if_pos hkR]
end Go.Proofs.Ytepljdnhnnpdmaa.Cores
