/-
  Laying items out by a key, digit by digit: a plain law on lists. No condition.
-/
import Derived.Test.YtepljdnhnnpdmaaK
set_option linter.unusedVariables false
set_option linter.unusedSimpArgs false
namespace Go.Proofs.Ytepljdnhnnpdmaa.Radix
variable {α : Type}
/-- The items by their keys 0 .. B - 1, those of one key in their order. -/
def bucket (key : α → Nat) (B : Nat) (l : List α) : List α := (List.range B).flatMap fun v => l.filter fun x => key x == v
theorem bucket_succ (key : α → Nat) (B : Nat) (l : List α) : bucket key (B + 1) l = bucket key B l ++ l.filter (fun x => key x == B) := by
  simp [bucket, List.range_succ, List.flatMap_append]
theorem range_mul (a b : Nat) : List.range (b * a) = (List.range b).flatMap fun d => (List.range a).map fun u => d * a + u := by
  induction b with
  | zero => simp
  | succ b ih =>
    rw [Nat.succ_mul, List.range_add, ih, List.range_succ, List.flatMap_append]
    simp
theorem filter_flatMap' {β : Type} (p : α → Bool) (f : β → List α) (l : List β) : (l.flatMap f).filter p = l.flatMap fun b => (f b).filter p := by
  induction l with
  | nil => rfl
  | cons a t ih => simp [List.flatMap_cons, List.filter_append, ih]
theorem bucket_bucket (p : α → Nat) (M fan : Nat) (hM : 0 < M) (l : List α) :
    bucket (fun x => p x / M % fan) fan (bucket (fun x => p x % M) M l) = bucket (fun x => p x % (fan * M)) (fan * M) l := by
  unfold bucket
  rw [range_mul M fan, List.flatMap_assoc]
  refine congrArg (fun f => List.flatMap f (List.range fan)) (funext fun d => ?_)
  rw [filter_flatMap', List.flatMap_map]
  have : ∀ L : List Nat, (∀ u ∈ L, u < M) → (L.flatMap fun u => (l.filter fun x => p x % M == u).filter fun x => p x / M % fan == d) = L.flatMap fun u => l.filter fun x => p x % (fan * M) == d * M + u := by
    intro L
    induction L with
    | nil => intro; rfl
    | cons u t ih =>
      intro h
      rw [List.flatMap_cons, List.flatMap_cons, ih fun v hv => h v (List.mem_cons_of_mem _ hv), List.filter_filter]
      congr 1
      refine List.filter_congr fun x _ => ?_
      have hu := h u (List.mem_cons_self)
      have e : p x % (fan * M) = (p x / M % fan) * M + p x % M := by
        rw [Nat.mul_comm fan M, Nat.mod_mul, Nat.mul_comm M, Nat.add_comm]
      rw [Bool.eq_iff_iff]
      simp only [Bool.and_eq_true, beq_iff_eq]
      rw [e]
      constructor
      · rintro ⟨h1, h2⟩; rw [h1, h2]
      · intro h'
        have hlt := Nat.mod_lt (p x) hM
        have h3 : ((p x / M % fan) * M + p x % M) % M = (d * M + u) % M := by rw [h']
        rw [Nat.mul_add_mod_self_right, Nat.mul_add_mod_self_right, Nat.mod_eq_of_lt hlt, Nat.mod_eq_of_lt hu] at h3
        have h4 : (p x / M % fan) * M = d * M := by omega
        exact ⟨Nat.eq_of_mul_eq_mul_right hM h4, h3⟩
  exact this (List.range M) fun u hu => List.mem_range.1 hu
theorem bucket_one (key : α → Nat) (l : List α) : bucket (fun x => key x % 1) 1 l = l := by
  simp [bucket, List.range_succ, Nat.mod_one]
theorem filter_none {q : α → Bool} {l : List α} (h : ∀ x ∈ l, q x = false) : l.filter q = [] := by
  rw [List.filter_eq_nil_iff]; intro x hx; simp [h x hx]
theorem bucket_more (key : α → Nat) (k B : Nat) (l : List α) (hk : ∀ x ∈ l, key x < k) (hB : k ≤ B) : bucket key B l = bucket key k l := by
  obtain ⟨m, rfl⟩ : ∃ m, B = k + m := ⟨B - k, by omega⟩
  clear hB
  induction m with
  | zero => rfl
  | succ m ih =>
    rw [← Nat.add_assoc, bucket_succ, ih, filter_none (fun x hx => by have := hk x hx; simp; omega), List.append_nil]
theorem bucket_mod (key : α → Nat) (k B : Nat) (l : List α) (hk : ∀ x ∈ l, key x < k) (hB : k ≤ B) : bucket (fun x => key x % B) B l = bucket key k l := by
  rw [← bucket_more key k B l hk hB]
  unfold bucket
  refine congrArg (fun f => List.flatMap f (List.range B)) (funext fun v => List.filter_congr fun x hx => ?_)
  show (key x % B == v) = (key x == v)
  rw [Nat.mod_eq_of_lt (Nat.lt_of_lt_of_le (hk x hx) hB)]
/-! ### where each key starts -/
def below (key : α → Nat) (l : List α) (v : Nat) : Nat := (l.filter fun x => key x < v).length
def cnt (key : α → Nat) (l : List α) (v : Nat) : Nat := (l.filter fun x => key x == v).length
theorem below_zero (key : α → Nat) (l : List α) : below key l 0 = 0 := by
  unfold below; rw [filter_none (fun x _ => by simp)]; rfl
theorem below_succ (key : α → Nat) (l : List α) (v : Nat) : below key l (v + 1) = below key l v + cnt key l v := by
  unfold below cnt
  induction l with
  | nil => rfl
  | cons a t ih =>
    simp only [List.filter_cons]
    by_cases h1 : key a < v
    · rw [if_pos (by simp; omega), if_pos (by simpa using h1), if_neg (by simp; omega)]; simp; omega
    · by_cases h2 : key a = v
      · rw [if_pos (by simp; omega), if_neg (by simpa using h1), if_pos (by simpa using h2)]; simp; omega
      · rw [if_neg (by simp; omega), if_neg (by simpa using h1), if_neg (by simpa using h2)]; exact ih
theorem bucket_length (key : α → Nat) (l : List α) (B : Nat) : (bucket key B l).length = below key l B := by
  induction B with
  | zero => rw [below_zero]; rfl
  | succ B ih => rw [bucket_succ, List.length_append, ih, below_succ]; rfl
theorem below_all (key : α → Nat) (l : List α) (B : Nat) (h : ∀ x ∈ l, key x < B) : below key l B = l.length := by
  unfold below
  rw [List.filter_eq_self.2 (by simpa using h)]
theorem below_mono (key : α → Nat) (l : List α) {u v : Nat} (h : u ≤ v) : below key l u ≤ below key l v := by
  induction v with
  | zero => rw [Nat.le_zero.1 h]; exact Nat.le_refl _
  | succ v ih =>
    rcases Nat.lt_or_ge u (v + 1) with g | g
    · rw [below_succ]; exact Nat.le_trans (ih (by omega)) (Nat.le_add_right _ _)
    · rw [show u = v + 1 by omega]; exact Nat.le_refl _
/-- The i-th of those of key v lies i behind where v starts. -/
theorem bucket_get (key : α → Nat) (l : List α) (B v i : Nat) (hv : v < B) (hi : i < cnt key l v) : (bucket key B l)[below key l v + i]? = (l.filter fun x => key x == v)[i]? := by
  induction B with
  | zero => omega
  | succ B ih =>
    rw [bucket_succ]
    rcases Nat.lt_or_ge v B with g | g
    · rw [List.getElem?_append_left, ih g]
      rw [bucket_length]
      have h1 := below_succ key l v
      have h2 := below_mono key l (u := v + 1) (v := B) g
      omega
    · obtain rfl : v = B := by omega
      rw [List.getElem?_append_right (by rw [bucket_length]; omega), bucket_length, Nat.add_sub_cancel_left]
/-- Each place belongs to one key. -/
theorem place_key (key : α → Nat) (l : List α) (B j : Nat) (hj : j < below key l B) : ∃ v i, v < B ∧ i < cnt key l v ∧ j = below key l v + i := by
  induction B with
  | zero => rw [below_zero] at hj; omega
  | succ B ih =>
    rcases Nat.lt_or_ge j (below key l B) with g | g
    · obtain ⟨v, i, h1, h2, h3⟩ := ih g
      exact ⟨v, i, by omega, h2, h3⟩
    · rw [below_succ] at hj
      exact ⟨B, j - below key l B, by omega, by omega, by omega⟩
theorem cnt_take_le (key : α → Nat) (l : List α) (v j : Nat) : cnt key (l.take j) v ≤ cnt key l v := by
  unfold cnt
  exact (List.Sublist.filter _ (List.take_sublist j l)).length_le
theorem cnt_snoc (key : α → Nat) (l : List α) (x : α) (v : Nat) : cnt key (l ++ [x]) v = cnt key l v + if key x = v then 1 else 0 := by
  unfold cnt
  rw [List.filter_append, List.length_append]
  by_cases h : key x = v
  · simp [List.filter_cons, h]
  · simp [List.filter_cons, h]
/-- Behind j items laid out: those of key v stand at its start. -/
def Laid (key : α → Nat) (l : List α) (fan j : Nat) (T : List α) : Prop :=
  ∀ v i, v < fan → i < cnt key (l.take j) v → T[below key l v + i]? = ((l.take j).filter fun x => key x == v)[i]?
theorem laid_zero (key : α → Nat) (l : List α) (fan : Nat) (T : List α) : Laid key l fan 0 T := fun v i _ hi => by simp [cnt] at hi
theorem laid_succ {key : α → Nat} {l : List α} {fan j : Nat} {T : List α} (h : Laid key l fan j T) {x : α} (hx : l[j]? = some x) (hT : below key l (key x) + cnt key (l.take j) (key x) < T.length) :
    Laid key l fan (j + 1) (T.set (below key l (key x) + cnt key (l.take j) (key x)) x) := by
  obtain ⟨hj, rfl⟩ := List.getElem?_eq_some_iff.1 hx
  intro v i hv hi
  have htk : l.take (j + 1) = l.take j ++ [l[j]] := List.take_succ_eq_append_getElem hj
  rw [htk, cnt_snoc] at hi
  rw [htk, List.filter_append]
  have hle := cnt_take_le key l v (j + 1)
  have hle2 := cnt_take_le key l (key l[j]) (j + 1)
  rw [htk, cnt_snoc] at hle hle2
  rw [if_pos rfl] at hle2
  by_cases e : key l[j] = v
  · rw [if_pos e] at hi hle
    subst e
    by_cases h2 : i = cnt key (l.take j) (key l[j])
    · subst h2
      rw [List.getElem?_set_self hT, List.getElem?_append_right (by unfold cnt; omega)]
      simp [cnt]
    · rw [List.getElem?_set_ne (by omega), h _ _ hv (by omega), List.getElem?_append_left (by unfold cnt at hi h2; omega)]
  · rw [if_neg e] at hi hle
    have h1 := below_succ key l v
    have h2 := below_succ key l (key l[j])
    have hne : below key l (key l[j]) + cnt key (l.take j) (key l[j]) ≠ below key l v + i := by
      rcases Nat.lt_or_ge (key l[j]) v with g | g
      · have := below_mono key l (u := key l[j] + 1) (v := v) g
        omega
      · have := below_mono key l (u := v + 1) (v := key l[j]) (by omega)
        omega
    rw [List.getElem?_set_ne hne, h _ _ hv (by omega), List.getElem?_append_left (by unfold cnt at hi; omega)]
theorem laid_all {key : α → Nat} {l : List α} {fan : Nat} {T : List α} (h : Laid key l fan l.length T) (hk : ∀ x ∈ l, key x < fan) (hT : l.length ≤ T.length) : T.take l.length = bucket key fan l := by
  have hb := below_all key l fan hk
  refine List.ext_getElem? fun j => ?_
  rcases Nat.lt_or_ge j l.length with g | g
  · rw [List.getElem?_take_of_lt g]
    obtain ⟨v, i, h1, h2, rfl⟩ := place_key key l fan j (by omega)
    rw [h v i h1 (by rw [List.take_length]; exact h2), bucket_get key l fan v i h1 h2, List.take_length]
  · rw [List.getElem?_eq_none (by simp; omega), List.getElem?_eq_none (by rw [bucket_length, hb]; exact g)]
end Go.Proofs.Ytepljdnhnnpdmaa.Radix
