/- The plain law of FnExactRatioOf: what the printed functions compute answers true for all lists of numbers; no condition beyond lengths that fit a slice, which every argument meets. -/
import Derived.Test.YtndiplmpolkneaaRx12
import Derived.Laws.Bits64b
namespace Go.Proofs.Ytndiplmpolkneaa.Pure
open Go Go.RowKit Go.Proofs.Ytndiplmpolkneaa.R Go.Proofs.YtndiplmpolkneaaW.PrintWords Go.Proofs.YtndiplmpolkneaaW.PrintLast
set_option linter.unusedVariables false
set_option linter.unusedSimpArgs false
/-! ### Lists -/
theorem w64 {x : Int} (h0 : -9223372036854775808 ≤ x) (h1 : x < 9223372036854775808) : wrap64 x = x := by unfold wrap64; omega
theorem rd_get {l : List Int} {i : Nat} (h : i < l.length) : rd l (i : Int) = l[i] := by
  unfold rd
  simp [List.getD_eq_getElem?_getD, h]
theorem rd_nat (l : List Int) (i : Nat) : rd l (i : Int) = l.getD i 0 := by unfold rd; simp
theorem index_loop (l : List Int) (a : Int) (hl : l.length < 1000000) : ∀ (d i k : Nat), l.length - i = d → i ≤ l.length → d < k → (∀ j, j < i → rd l (j : Int) ≠ a) →
    (∃ j, j < l.length ∧ rd l (j : Int) = a ∧ slices_Index_int64_int64.l0 k l a l.length i = some (j : Int)) ∨ ((∀ j, j < l.length → rd l (j : Int) ≠ a) ∧ slices_Index_int64_int64.l0 k l a l.length i = some (-1)) := by
  intro d
  induction d with
  | zero =>
    intro i k hd hi hk hA
    obtain ⟨k, rfl⟩ : ∃ j, k = j + 1 := ⟨k - 1, by omega⟩
    simp only [slices_Index_int64_int64.l0]
    rw [if_neg (by omega)]
    exact .inr ⟨fun j hj => hA j (by omega), rfl⟩
  | succ d ih =>
    intro i k hd hi hk hA
    obtain ⟨k, rfl⟩ : ∃ j, k = j + 1 := ⟨k - 1, by omega⟩
    simp only [slices_Index_int64_int64.l0]
    rw [if_pos (by omega), if_pos (by omega), if_pos (by omega)]
    by_cases hx : a = rd l (i : Int)
    · rw [if_pos hx]
      exact .inl ⟨i, by omega, hx.symm, rfl⟩
    · rw [if_neg hx, w64 (by omega) (by omega), show (i : Int) + 1 = ((i + 1 : Nat) : Int) from by omega]
      refine ih (i + 1) k (by omega) (by omega) (by omega) (fun j hj => ?_)
      by_cases e : j = i
      · subst e; exact fun h => hx h.symm
      · exact hA j (by omega)
theorem index_ok (l : List Int) (a : Int) (hl : l.length < 1000000) (k : Nat) (hk : l.length < k) :
    (∃ j, j < l.length ∧ rd l (j : Int) = a ∧ slices_Index_int64_int64.f k l a = some (j : Int)) ∨ ((∀ j, j < l.length → rd l (j : Int) ≠ a) ∧ slices_Index_int64_int64.f k l a = some (-1)) :=
  index_loop l a hl l.length 0 k (by omega) (by omega) hk (by simp)
theorem permuted_loop (c ages : List Int) (hc : c.length < 1000000) (ha : ages.length < 1000000) (hr : ∀ i, i < ages.length → 0 ≤ rd ages (i : Int) ∧ rd ages (i : Int) < c.length) : ∀ (d i k : Nat), ages.length - i = d → i ≤ ages.length → d < k →
    impl_permuted.l0 k c ((ages.take i).map (rd c)) ages ages.length i = some (ages.map (rd c)) := by
  intro d
  induction d with
  | zero =>
    intro i k hd hi hk
    obtain ⟨k, rfl⟩ : ∃ j, k = j + 1 := ⟨k - 1, by omega⟩
    simp only [impl_permuted.l0]
    rw [if_neg (by omega), List.take_of_length_le (by omega)]
  | succ d ih =>
    intro i k hd hi hk
    obtain ⟨k, rfl⟩ : ∃ j, k = j + 1 := ⟨k - 1, by omega⟩
    have hi' : i < ages.length := by omega
    have h := hr i hi'
    simp only [impl_permuted.l0]
    rw [if_pos (by omega), if_pos (by omega), if_pos (by omega), if_pos h.1, if_pos h.2, if_pos (by simp; omega), w64 (by omega) (by omega), show (i : Int) + 1 = ((i + 1 : Nat) : Int) from by omega]
    have e : (ages.take i).map (rd c) ++ [rd c (rd ages (i : Int))] = (ages.take (i + 1)).map (rd c) := by
      rw [List.take_succ_eq_append_getElem hi', List.map_append, rd_get hi']; rfl
    rw [e]
    exact ih (i + 1) k (by omega) (by omega) (by omega)
theorem permuted_ok (c ages : List Int) (hc : c.length < 1000000) (ha : ages.length < 1000000) (hr : ∀ x ∈ ages, 0 ≤ x ∧ x < c.length) (k : Nat) (hk : ages.length < k) : impl_permuted.f k c ages = some (ages.map (rd c)) :=
  permuted_loop c ages hc ha (fun i hi => by rw [rd_get hi]; exact hr _ (List.getElem_mem _)) ages.length 0 k (by omega) (by omega) hk
/-! ### The two policies -/
theorem map_rd_range (c : List Int) : ∀ n, n ≤ c.length → (asc (n : Int)).map (rd c) = c.take n := by
  intro n hn
  unfold asc
  rw [Int.toNat_natCast, List.map_map]
  apply List.ext_getElem
  · simp; omega
  · intro i h1 h2
    simp only [List.length_map, List.length_range] at h1
    simp [rd, List.getD_eq_getElem?_getD, show i < c.length by omega]
theorem asc_take (n i : Nat) (h : i ≤ n) : (asc (n : Int)).take i = asc (i : Int) := by
  unfold asc
  simp [List.take_range, Nat.min_eq_left h, ← List.map_take]
theorem map_rd_drop (c : List Int) (n i : Nat) (hn : n = c.length) : ((asc (n : Int)).drop i).map (rd c) = c.drop i := by
  rw [List.map_drop, map_rd_range c n (by omega), hn, List.take_length]
theorem asc_mem {n : Nat} {x : Int} (h : x ∈ asc (n : Int)) : 0 ≤ x ∧ x < n := by
  unfold asc at h
  simp at h
  obtain ⟨a, ha, rfl⟩ := h
  omega
theorem asc_sorted (n : Int) : (asc n).Pairwise fun a b => decide (a ≤ b) = true := by
  unfold asc
  rw [List.pairwise_map]
  exact List.pairwise_lt_range.imp (fun {a b} h => by simp; omega)
theorem srt_of_perm {l : List Int} {n : Int} (h : l.Perm (asc n)) : srt l = asc n := by
  refine List.Perm.eq_of_pairwise (le := fun a b => decide (a ≤ b) = true) ?_ ?_ (asc_sorted n) ((List.mergeSort_perm _ _).trans h)
  · intro a b _ _ h1 h2; simp at h1 h2; omega
  · exact List.pairwise_mergeSort (by intro a b c h1 h2; simp at *; omega) (by intro a b; simp; omega) l
theorem isOrd_of_perm {l : List Int} {n : Nat} (h : l.Perm (asc n)) : isOrd n l = true := by
  unfold isOrd
  rw [srt_of_perm h, h.length_eq, asc_length]
  simp
theorem valid_of (n : Nat) (h1 : 1 ≤ n) (h2 : n ≤ 6) (rows : List (List Int)) (ms : List Int) (hl : rows.length = n) (hr : ∀ x ∈ rows, x.Perm (asc n)) (hm : ms.Perm (asc n)) : impl_ValidPolicy.f rows ms = some true := by
  have hml : ms.length = n := by rw [hm.length_eq, asc_length]; omega
  unfold impl_ValidPolicy.f
  rw [hml, if_pos ⟨by omega, List.all_eq_true.2 fun x hx => by have := (hr x hx).length_eq; rw [asc_length] at this; simp; omega⟩]
  congr 1
  rw [isOrd_of_perm hm, show rows.all (isOrd n) = true from List.all_eq_true.2 fun x hx => isOrd_of_perm (hr x hx)]
  simp [inR, hl]
  omega
theorem empty_ok (rows : List (List Int)) (ms : List Int) (h : ms.length ≤ 6) : impl_Policy_empty.f rows ms = some (List.replicate ms.length (-1)) := by
  unfold impl_Policy_empty.f slices_Repeat_int64_int64.f
  rw [if_pos ⟨rfl, by omega, by omega⟩]
  simp
theorem uses_ok (us : List Int) (h1 : us.length ≤ 60) (h2 : ∀ x ∈ us, 0 ≤ x ∧ x < 64) : impl_ValidUses.f us = some true := by
  unfold impl_ValidUses.f impl_allIn.f
  rw [if_pos (by omega), Option.bind_some]
  congr 1
  rw [List.all_eq_true]
  intro x hx
  have := h2 x hx
  simp [inR]
  omega
theorem step_hit (rows : List (List Int)) (ms : List Int) (n j : Nat) (c : List Int) (a : Int) (hn : n = c.length) (h2 : n ≤ 6) (hrl : rows.length = n) (k : Nat) (hk : 10 ≤ k)
    (hm : ∀ i, i < n → ((rows.getD i []).length ≤ 6 ∧ ∀ x ∈ rows.getD i [], 0 ≤ x ∧ x < n)) (hj : j < c.length) (hja : rd c (j : Int) = a) :
    ∃ i, i < c.length ∧ rd c (i : Int) = a ∧ impl_Policy_step.f k rows ms c a = some ((rows.getD i []).map (rd c), -1, true) := by
  unfold impl_Policy_step.f
  rcases index_ok c a (by omega) k (by omega) with ⟨i, hi, hia, e⟩ | ⟨hA, _⟩
  · refine ⟨i, hi, hia, ?_⟩
    rw [e, Option.bind_some, if_pos (by omega), if_pos (by omega), if_pos (by omega)]
    have er : rd_L1 rows (i : Int) = rows.getD i [] := by unfold rd_L1; simp
    have hmi := hm i (by omega)
    rw [er, permuted_ok _ _ (by omega) (by omega) (fun x hx => by have := hmi.2 x hx; omega) k (by omega), Option.bind_some]
  · exact absurd hja (hA j hj)
/-- The different addresses of uses (the latest first), the latest first. -/
def dis : List Int → List Int
  | [] => []
  | a :: r => a :: (dis r).filter (· != a)
theorem dis_cons (a : Int) (r : List Int) : dis (a :: r) = a :: (dis r).filter (· != a) := rfl
theorem dis_nodup : ∀ r, (dis r).Nodup
  | [] => List.nodup_nil
  | a :: r => by
    unfold dis
    rw [List.nodup_cons]
    exact ⟨by simp, (dis_nodup r).filter _⟩
theorem dis_mem : ∀ (r : List Int) (x : Int), x ∈ dis r → x ∈ r
  | [], _, h => by simp [dis] at h
  | a :: r, x, h => by
    unfold dis at h
    rcases List.mem_cons.1 h with rfl | h
    · exact List.mem_cons_self
    · exact List.mem_cons_of_mem _ (dis_mem r x (List.mem_filter.1 h).1)
theorem erase_nodup : ∀ (T : List Int) (j : Nat) (a : Int), T.Nodup → T[j]? = some a → T.eraseIdx j = T.filter (· != a)
  | [], _, _, _, h => by simp at h
  | b :: T, 0, a, hn, h => by
    obtain rfl : b = a := by simpa using h
    rw [List.nodup_cons] at hn
    rw [List.eraseIdx_cons_zero, List.filter_cons_of_neg (by simp)]
    symm
    rw [List.filter_eq_self]
    intro x hx
    have : x ≠ b := fun e => hn.1 (e ▸ hx)
    simpa using this
  | b :: T, j + 1, a, hn, h => by
    rw [List.nodup_cons] at hn
    have hT : T[j]? = some a := by simpa using h
    have hba : b ≠ a := fun e => hn.1 (e ▸ List.mem_of_getElem? hT)
    rw [List.eraseIdx_cons_succ, List.filter_cons_of_pos (by simpa using hba), erase_nodup T j a hn.2 hT]
/-! ### Places in the list of different addresses -/
theorem dis_of_mem : ∀ (r : List Int) (x : Int), x ∈ r → x ∈ dis r
  | a :: r, x, h => by
    rw [dis_cons]
    by_cases e : x = a
    · rw [e]; exact List.mem_cons_self
    · rcases List.mem_cons.1 h with h | h
      · exact absurd h e
      · exact List.mem_cons_of_mem _ (List.mem_filter.2 ⟨dis_of_mem r x h, by simpa using e⟩)
theorem dis_append : ∀ (p s : List Int), dis (p ++ s) = dis p ++ (dis s).filter (fun x => !decide (x ∈ p))
  | [], s => by
    simp only [dis, List.nil_append]
    symm
    rw [List.filter_eq_self]
    intro x _
    rfl
  | a :: p, s => by
    rw [List.cons_append, dis_cons, dis_append p s, dis_cons, List.filter_append, List.filter_filter, List.cons_append]
    congr 2
    congr 1
    funext x
    by_cases hx : x = a
    · simp [hx]
    · simp [hx]
/-- At which place a use of an address is found: how many different addresses were used since its last use, or -1. -/
def dst (r : List Int) (a : Int) : Int := if a ∈ r then ((dis (r.takeWhile (· != a))).length : Int) else -1
theorem dst_at (p s : List Int) (a : Int) (ha : a ∉ p) : dst (p ++ a :: s) a = ((dis p).length : Int) := by
  unfold dst
  rw [if_pos (by simp), List.takeWhile_append_of_pos (by
    intro x hx
    have : x ≠ a := fun e => ha (e ▸ hx)
    simpa using this), List.takeWhile_cons_of_neg (by simp), List.append_nil]
theorem dis_le (r : List Int) : (dis r).length ≤ r.length := by
  induction r with
  | nil => simp [dis]
  | cons a r ih =>
    rw [dis_cons]
    have := List.length_filter_le (· != a) (dis r)
    simp
    omega
theorem dst_lt (r : List Int) (a : Int) : -1 ≤ dst r a ∧ dst r a < r.length + 1 := by
  unfold dst
  by_cases h : a ∈ r
  · rw [if_pos h]
    have h1 := dis_le (r.takeWhile (· != a))
    have h2 : (r.takeWhile (· != a)).length ≤ r.length := (List.takeWhile_sublist _).length_le
    omega
  · rw [if_neg h]; omega
theorem mem_take_dst (r : List Int) (a : Int) (n : Nat) : a ∈ (dis r).take n ↔ (0 ≤ dst r a ∧ dst r a < n) := by
  by_cases h : a ∈ r
  · obtain ⟨p, s, rfl, hp⟩ := List.eq_append_cons_of_mem h
    have hd : dis (p ++ a :: s) = dis p ++ a :: ((dis s).filter (· != a)).filter (fun x => !decide (x ∈ p)) := by
      rw [dis_append, dis_cons, List.filter_cons_of_pos (by simpa using hp)]
    rw [dst_at p s a hp, hd]
    constructor
    · intro hm
      by_cases hl : (dis p).length < n
      · omega
      · rw [List.take_append_of_le_length (by omega)] at hm
        exact absurd (dis_mem p a (List.mem_of_mem_take hm)) hp
    · intro hl
      rw [List.take_append, List.mem_append]
      right
      obtain ⟨m, hm⟩ : ∃ m, n - (dis p).length = m + 1 := ⟨n - (dis p).length - 1, by omega⟩
      rw [hm, List.take_succ_cons]
      exact List.mem_cons_self
  · constructor
    · intro hm
      exact absurd (dis_mem r a (List.mem_of_mem_take hm)) h
    · intro hd
      unfold dst at hd
      rw [if_neg h] at hd
      omega
theorem filter_len (T : List Int) (a : Int) (hn : T.Nodup) : (T.filter (· != a)).length + (if a ∈ T then 1 else 0) = T.length := by
  by_cases h : a ∈ T
  · rw [if_pos h]
    obtain ⟨j, hj, e⟩ := List.mem_iff_getElem.1 h
    rw [← erase_nodup T j a hn (by rw [List.getElem?_eq_getElem hj, e]), List.length_eraseIdx_of_lt hj]
    omega
  · rw [if_neg h, List.filter_eq_self.2 (fun x hx => by
      have : x ≠ a := fun e => h (e ▸ hx)
      simpa using this)]
    omega
theorem dis_len_cons (a : Int) (r : List Int) : (dis (a :: r)).length = (dis r).length + (if a ∈ r then 0 else 1) := by
  rw [dis_cons, List.length_cons]
  have h := filter_len (dis r) a (dis_nodup r)
  by_cases hm : a ∈ r
  · rw [if_pos (dis_of_mem r a hm)] at h
    rw [if_pos hm]
    omega
  · rw [if_neg (fun e => hm (dis_mem r a e))] at h
    rw [if_neg hm]
    omega
/-! ### The set of a list -/
theorem compactUpTo_sorted (zs : List Int) (hs : zs.Pairwise fun a b => decide (a ≤ b) = true) : ∀ m, m ≤ zs.length →
    (Lib.compactUpTo zs.toArray m).Nodup ∧ (∀ x, x ∈ Lib.compactUpTo zs.toArray m ↔ x ∈ zs.take m) := by
  intro m
  induction m with
  | zero => intro _; simp [Lib.compactUpTo]
  | succ m ih =>
    intro hm
    obtain ⟨h1, h2⟩ := ih (by omega)
    have hlt : m < zs.length := by omega
    have hg : zs.toArray[m]! = zs[m] := by simp [hlt]
    rw [Lib.compactUpTo_succ, List.take_succ_eq_append_getElem hlt, hg]
    by_cases hk : Lib.keeps zs.toArray m = true
    · rw [if_pos hk]
      have hnew : zs[m] ∉ zs.take m := by
        intro hmem
        obtain ⟨i, hi, e⟩ := List.mem_iff_getElem.1 hmem
        simp at hi
        rw [List.getElem_take] at e
        have hm0 : 0 < m := by omega
        have hle : zs[m - 1] ≤ zs[m] := by
          have := List.pairwise_iff_getElem.1 hs (m - 1) m (by omega) hlt (by omega)
          simpa using this
        have hle2 : zs[i] ≤ zs[m - 1] := by
          by_cases hii : i = m - 1
          · subst hii; omega
          · have := List.pairwise_iff_getElem.1 hs i (m - 1) (by omega) (by omega) (by omega)
            simpa using this
        unfold Lib.keeps at hk
        have hk' := of_decide_eq_true hk
        rcases hk' with hk' | hk'
        · omega
        · rw [hg, show zs.toArray[m - 1]! = zs[m - 1] from by simp [show m - 1 < zs.length by omega]] at hk'
          omega
      refine ⟨?_, fun x => ?_⟩
      · rw [List.nodup_append]
        refine ⟨h1, by simp, ?_⟩
        intro x hx y hy e
        rw [List.mem_singleton] at hy
        exact hnew (by rw [← hy, ← e]; exact (h2 x).1 hx)
      · rw [List.mem_append, List.mem_append, h2 x]
    · rw [if_neg hk, List.append_nil]
      refine ⟨h1, fun x => ?_⟩
      rw [h2 x, List.mem_append, List.mem_singleton]
      constructor
      · exact Or.inl
      · rintro (h | h)
        · exact h
        · unfold Lib.keeps at hk
          have hk' : ¬ (m = 0 ∨ zs.toArray[m]! ≠ zs.toArray[m - 1]!) := fun e => hk (decide_eq_true e)
          have hm0 : 0 < m := by omega
          have he : zs.toArray[m]! = zs.toArray[m - 1]! := by
            by_cases e : zs.toArray[m]! = zs.toArray[m - 1]!
            · exact e
            · exact absurd (Or.inr e) hk'
          rw [hg, show zs.toArray[m - 1]! = zs[m - 1] from by simp [show m - 1 < zs.length by omega]] at he
          rw [h, he]
          exact List.mem_iff_getElem.2 ⟨m - 1, by simp; omega, by rw [List.getElem_take]⟩
theorem srt_sorted (l : List Int) : (srt l).Pairwise fun a b => decide (a ≤ b) = true :=
  List.pairwise_mergeSort (by intro a b c h1 h2; simp at *; omega) (by intro a b; simp; omega) l
theorem set_len (l r : List Int) (h : ∀ x, x ∈ l ↔ x ∈ r) : (Lib.compact (srt l)).length = (dis r).length := by
  obtain ⟨h1, h2⟩ := compactUpTo_sorted (srt l) (srt_sorted l) (srt l).length (Nat.le_refl _)
  rw [List.take_length] at h2
  have hp : (Lib.compactUpTo (srt l).toArray (srt l).length).Perm (dis r) := by
    rw [List.perm_ext_iff_of_nodup h1 (dis_nodup r)]
    intro x
    rw [h2 x, show x ∈ srt l ↔ x ∈ l from (List.mergeSort_perm l _).mem_iff, h x]
    exact ⟨dis_of_mem r x, dis_mem r x⟩
  exact hp.length_eq
/-! ### Rounds enough -/
/-- From some number of rounds on F tells v. -/
def Ev {α : Type} (F : Nat → Option α) (v : α) : Prop := ∃ k0, ∀ k, k0 ≤ k → F k = some v
theorem Ev.const {α : Type} {o : Option α} {v : α} (h : o = some v) : Ev (fun _ => o) v := ⟨0, fun _ _ => h⟩
theorem Ev.of {α : Type} {F : Nat → Option α} {v : α} (k0 : Nat) (h : ∀ k, k0 ≤ k → F k = some v) : Ev F v := ⟨k0, h⟩
theorem Ev.bind {α β : Type} {F : Nat → Option α} {G : Nat → α → Option β} {v : α} {u : β} (h : Ev F v) (h2 : Ev (fun k => G k v) u) : Ev (fun k => (F k).bind (G k)) u := by
  obtain ⟨a, ha⟩ := h
  obtain ⟨b, hb⟩ := h2
  exact ⟨max a b, fun k hk => by show (F k).bind (G k) = some u; rw [ha k (by omega), Option.bind_some]; exact hb k (by omega)⟩
/-- A round more. -/
theorem Ev.step {α : Type} {F G : Nat → Option α} {v : α} (h : Ev G v) (e : ∀ k, F (k + 1) = G k) : Ev F v := by
  obtain ⟨a, ha⟩ := h
  refine ⟨a + 1, fun k hk => ?_⟩
  obtain ⟨m, rfl⟩ : ∃ m, k = m + 1 := ⟨k - 1, by omega⟩
  rw [e]
  exact ha m (by omega)
theorem Ev.congr {α : Type} {F G : Nat → Option α} {v : α} (h : Ev G v) (e : ∀ k, F k = G k) : Ev F v := by
  obtain ⟨a, ha⟩ := h
  exact ⟨a, fun k hk => by rw [e]; exact ha k hk⟩
/-- The addresses that contents tell. -/
def toldOf (l : List Int) : List Int := l.filter fun a => !decide (a < 0)
theorem Ev.mono {α : Type} {F : Nat → Option α} {v : α} (hm : ∀ k, LeO (F k) (F (k + 1))) (k0 : Nat) (h : F k0 = some v) : Ev F v := by
  refine ⟨k0, fun k hk => ?_⟩
  obtain ⟨d, rfl⟩ : ∃ d, k = k0 + d := ⟨k - k0, by omega⟩
  clear hk
  induction d with
  | zero => exact h
  | succ d ih => exact hm _ _ ih
/-- A policy with n ways: each list is the ages in some order. -/
structure Good (n : Nat) (rows : List (List Int)) (ms : List Int) : Prop where
  len : rows.length = n
  row : ∀ x ∈ rows, x.Perm (asc n)
  miss : ms.Perm (asc n)
/-! ### Contents and their steps -/
structure Cont (n : Nat) (c : List Int) : Prop where
  len : c.length = n
  rng : ∀ x ∈ c, -1 ≤ x ∧ x ≤ 63
  nod : (toldOf c).Nodup
theorem toldOf_perm {a b : List Int} (h : a.Perm b) : (toldOf a).Perm (toldOf b) := h.filter _
theorem Cont.perm {n : Nat} {a b : List Int} (h : Cont n a) (hp : b.Perm a) : Cont n b :=
  ⟨by rw [hp.length_eq]; exact h.len, fun x hx => h.rng x (hp.mem_iff.1 hx), (toldOf_perm hp).nodup_iff.2 h.nod⟩
theorem map_perm {n : Nat} {ages c : List Int} (hp : ages.Perm (asc n)) (hc : c.length = n) : (ages.map (rd c)).Perm c := by
  have h1 : (asc (n : Int)).map (rd c) = c := by rw [map_rd_range c n (by omega), ← hc, List.take_length]
  have h2 := hp.map (rd c)
  rw [h1] at h2
  exact h2
theorem cont_empty (n : Nat) : Cont n (List.replicate n (-1)) := by
  refine ⟨by simp, fun x hx => ?_, ?_⟩
  · rw [(List.mem_replicate.1 hx).2]; omega
  · have : toldOf (List.replicate n (-1)) = [] := by
      unfold toldOf
      rw [List.filter_eq_nil_iff]
      intro x hx
      rw [(List.mem_replicate.1 hx).2]
      decide
    rw [this]
    exact List.nodup_nil
theorem set_last (c : List Int) (a : Int) (h : 0 < c.length) : c.set (c.length - 1) a = c.take (c.length - 1) ++ [a] := by
  rw [List.set_eq_take_append_cons_drop, if_pos (by omega), List.drop_of_length_le (by omega)]
theorem cont_miss {n : Nat} {c : List Int} (h : Cont n c) (h1 : 1 ≤ n) {a : Int} (h0 : 0 ≤ a) (ha : a < 64) (hn : a ∉ c) : Cont n (c.set (n - 1) a) := by
  have hl := h.len
  subst hl
  rw [set_last c a h1]
  refine ⟨by simp; omega, fun x hx => ?_, ?_⟩
  · rcases List.mem_append.1 hx with hx | hx
    · exact h.rng x (List.mem_of_mem_take hx)
    · rw [List.mem_singleton.1 hx]; omega
  · have e : toldOf (c.take (c.length - 1) ++ [a]) = toldOf (c.take (c.length - 1)) ++ [a] := by
      unfold toldOf
      rw [List.filter_append]
      congr 1
      have : ¬ a < 0 := by omega
      simp [this]
    rw [e, List.nodup_append]
    refine ⟨List.Nodup.sublist (List.Sublist.filter _ (List.take_sublist _ _)) h.nod, by simp, ?_⟩
    intro x hx y hy exy
    rw [List.mem_singleton.1 hy] at exy
    unfold toldOf at hx
    exact hn (exy ▸ List.mem_of_mem_take (List.mem_filter.1 hx).1)
theorem dis_nd : ∀ (l : List Int), l.Nodup → dis l = l
  | [], _ => rfl
  | a :: r, h => by
    rw [List.nodup_cons] at h
    rw [dis_cons, dis_nd r h.2]
    congr 1
    rw [List.filter_eq_self]
    intro x hx
    have : x ≠ a := by rintro rfl; exact h.1 hx
    simpa using this
theorem rd_of_mem {c : List Int} {a : Int} (h : a ∈ c) : ∃ j, j < c.length ∧ rd c (j : Int) = a := by
  obtain ⟨j, hj, e⟩ := List.mem_iff_getElem.1 h
  exact ⟨j, hj, by rw [rd_get hj]; exact e⟩
theorem step_ok {n : Nat} {rows : List (List Int)} {ms c : List Int} (G : Good n rows ms) (h1 : 1 ≤ n) (h2 : n ≤ 6) (h : Cont n c) (a : Int) (h0 : 0 ≤ a) (ha : a < 64) :
    ∃ c' o, (∀ k, 10 ≤ k → impl_Policy_step.f k rows ms c a = some (c', o, decide (a ∈ c))) ∧ Cont n c' ∧ a ∈ c' ∧ (a ∈ c → o = -1) ∧ (a ∉ c → o = rd c ((n - 1 : Nat) : Int)) ∧ (∀ x ∈ c', x = a ∨ x ∈ c) := by
  have hcl := h.len
  have key : ∃ c' o, impl_Policy_step.f 10 rows ms c a = some (c', o, decide (a ∈ c)) ∧ Cont n c' ∧ a ∈ c' ∧ (a ∈ c → o = -1) ∧ (a ∉ c → o = rd c ((n - 1 : Nat) : Int)) ∧ (∀ x ∈ c', x = a ∨ x ∈ c) := by
    by_cases hm : a ∈ c
    · obtain ⟨j, hj, hja⟩ := rd_of_mem hm
      have hrow : ∀ i, i < n → (rows.getD i []).Perm (asc n) := fun i hi => by
        rw [List.getD_eq_getElem?_getD, List.getElem?_eq_getElem (by rw [G.len]; exact hi)]
        exact G.row _ (List.getElem_mem _)
      obtain ⟨i, hi, hia, e⟩ := step_hit rows ms n j c a hcl.symm h2 G.len 10 (by omega) (fun i hi => by
        have hp := hrow i hi
        refine ⟨by rw [hp.length_eq, asc_length]; omega, fun x hx => asc_mem (hp.mem_iff.1 hx)⟩) hj hja
      have hp := map_perm (hrow i (by omega)) hcl
      refine ⟨_, _, by rw [e, decide_eq_true hm], h.perm hp, hp.mem_iff.2 hm, fun _ => rfl, fun hq => absurd hm hq, fun x hx => .inr (hp.mem_iff.1 hx)⟩
    · have hA : ∀ j, j < c.length → rd c (j : Int) ≠ a := fun j hj e => hm (by rw [rd_get hj] at e; rw [← e]; exact List.getElem_mem _)
      have hp : (ms.map (rd (c.set (n - 1) a))).Perm (c.set (n - 1) a) := map_perm G.miss (by simp [hcl])
      have hml : ms.length = n := by rw [G.miss.length_eq, asc_length]; omega
      refine ⟨ms.map (rd (c.set (n - 1) a)), rd c ((n - 1 : Nat) : Int), ?_, (cont_miss h h1 h0 ha hm).perm hp, hp.mem_iff.2 ?_, fun hq => absurd hq hm, fun _ => rfl, fun x hx => ?_⟩
      · unfold impl_Policy_step.f
        rcases index_ok c a (by omega) 10 (by omega) with ⟨j, hj, hja, e⟩ | ⟨_, e⟩
        · exact absurd hja (hA j hj)
        · rw [e, Option.bind_some, if_neg (by omega), decide_eq_false hm]
          unfold slices_Clone_int64_int64.f
          rw [if_pos (by omega), Option.bind_some, w64 (by omega) (by omega), if_pos (by omega), if_pos (by omega), show (c.length : Int) - 1 = ((n - 1 : Nat) : Int) from by omega, Int.toNat_natCast,
            permuted_ok _ _ (by simp; omega) (by omega) (fun x hx => by have := asc_mem (G.miss.mem_iff.1 hx); simp; omega) 10 (by omega), Option.bind_some]
      · rw [← hcl, set_last c a (by omega)]
        simp
      · have hx' := hp.mem_iff.1 hx
        rcases List.mem_or_eq_of_mem_set hx' with hx' | rfl
        · exact .inr hx'
        · exact .inl rfl
  obtain ⟨c', o, e, h3⟩ := key
  exact ⟨c', o, fun k hk => at_rounds (g := fun k => impl_Policy_step.f k rows ms c a) (fun k => impl_Policy_step.mono _ _ _ _ k) hk e, h3⟩
/-! ### Runs -/
def stp (rows : List (List Int)) (ms c : List Int) (a : Int) : List Int × Int × Bool := (impl_Policy_step.f 10 rows ms c a).getD ([], 0, false)
theorem stp_ok {n : Nat} {rows : List (List Int)} {ms c : List Int} (G : Good n rows ms) (h1 : 1 ≤ n) (h2 : n ≤ 6) (h : Cont n c) (a : Int) (h0 : 0 ≤ a) (ha : a < 64) :
    (∀ k, 10 ≤ k → impl_Policy_step.f k rows ms c a = some (stp rows ms c a)) ∧ Cont n (stp rows ms c a).1 ∧ a ∈ (stp rows ms c a).1 ∧ (stp rows ms c a).2.2 = decide (a ∈ c) ∧ (a ∈ c → (stp rows ms c a).2.1 = -1) ∧ (a ∉ c → (stp rows ms c a).2.1 = rd c ((n - 1 : Nat) : Int)) ∧ (∀ x ∈ (stp rows ms c a).1, x = a ∨ x ∈ c) := by
  obtain ⟨c', o, e, h3, h4, h5, h6, h7⟩ := step_ok G h1 h2 h a h0 ha
  have es : stp rows ms c a = (c', o, decide (a ∈ c)) := by unfold stp; rw [e 10 (by omega)]; rfl
  rw [es]
  exact ⟨e, h3, h4, rfl, h5, h6, h7⟩
/-- The contents behind i uses. -/
def stt (rows : List (List Int)) (ms us : List Int) : Nat → List Int
  | 0 => List.replicate ms.length (-1)
  | i + 1 => (stp rows ms (stt rows ms us i) (rd us (i : Int))).1
def hitA (rows : List (List Int)) (ms us : List Int) (i : Nat) : Int := if (stp rows ms (stt rows ms us i) (rd us (i : Int))).2.2 = true then 1 else 0
def oldA (rows : List (List Int)) (ms us : List Int) (i : Nat) : Int := (stp rows ms (stt rows ms us i) (rd us (i : Int))).2.1
theorem stt_cont {n : Nat} {rows : List (List Int)} {ms us : List Int} (G : Good n rows ms) (h1 : 1 ≤ n) (h2 : n ≤ 6) (hu : ∀ x ∈ us, 0 ≤ x ∧ x < 64) : ∀ i, i ≤ us.length → Cont n (stt rows ms us i)
  | 0, _ => by
    have hml : ms.length = n := by rw [G.miss.length_eq, asc_length]; omega
    unfold stt
    rw [hml]
    exact cont_empty n
  | i + 1, hi => by
    have hx := hu _ (show rd us (i : Int) ∈ us from by rw [rd_get (by omega)]; exact List.getElem_mem _)
    exact (stp_ok G h1 h2 (stt_cont G h1 h2 hu i (by omega)) _ hx.1 hx.2).2.1
theorem range_snoc (f : Nat → Int) (i : Nat) : (List.range i).map f ++ [f i] = (List.range (i + 1)).map f := by rw [List.range_succ, List.map_append]; rfl
theorem run_l0 {n : Nat} {rows : List (List Int)} {ms us : List Int} (G : Good n rows ms) (h1 : 1 ≤ n) (h2 : n ≤ 6) (hul : us.length ≤ 60) (hu : ∀ x ∈ us, 0 ≤ x ∧ x < 64) : ∀ (d i : Nat), us.length - i = d → i ≤ us.length →
    Ev (fun k => impl_Policy_run.l0 k (stt rows ms us i) ((List.range i).map (hitA rows ms us)) ((List.range i).map (oldA rows ms us)) us us.length i rows ms) ((List.range us.length).map (hitA rows ms us), (List.range us.length).map (oldA rows ms us), stt rows ms us us.length) := by
  intro d
  induction d with
  | zero =>
    intro i hd hi
    obtain rfl : i = us.length := by omega
    refine Ev.step (Ev.const (o := some _) rfl) (fun k => ?_)
    simp only [impl_Policy_run.l0]
    rw [if_neg (by omega)]
  | succ d ih =>
    intro i hd hi
    obtain ⟨k0, hk0⟩ := ih (i + 1) (by omega) (by omega)
    have hx := hu _ (show rd us (i : Int) ∈ us from by rw [rd_get (by omega)]; exact List.getElem_mem _)
    obtain ⟨e, _, _, _, _, _⟩ := stp_ok G h1 h2 (stt_cont G h1 h2 hu i (by omega)) _ hx.1 hx.2
    refine ⟨max k0 10 + 1, fun k hk => ?_⟩
    obtain ⟨k, rfl⟩ : ∃ j, k = j + 1 := ⟨k - 1, by omega⟩
    have e1 := hk0 k (by omega)
    dsimp only at e1 ⊢
    simp only [impl_Policy_run.l0]
    have hl1 : ((List.range i).map (hitA rows ms us)).length < 17592186044416 := by simp; omega
    have hl2 : ((List.range i).map (oldA rows ms us)).length < 17592186044416 := by simp; omega
    rw [if_pos (by omega), if_pos (by omega), if_pos (by omega), e k (by omega), Option.bind_some, if_pos hl1, if_pos hl2, if_pos hl1, if_pos hl2, w64 (by omega) (by omega), show (i : Int) + 1 = ((i + 1 : Nat) : Int) from by omega]
    rw [← range_snoc, ← range_snoc, show stt rows ms us (i + 1) = (stp rows ms (stt rows ms us i) (rd us (i : Int))).1 from rfl,
      show hitA rows ms us i = if (stp rows ms (stt rows ms us i) (rd us (i : Int))).2.2 = true then 1 else 0 from rfl,
      show oldA rows ms us i = (stp rows ms (stt rows ms us i) (rd us (i : Int))).2.1 from rfl] at e1
    cases hh : (stp rows ms (stt rows ms us i) (rd us (i : Int))).2.2 with
    | true =>
      rw [hh, if_pos rfl] at e1
      rw [if_pos rfl]
      exact e1
    | false =>
      rw [hh, if_neg (by simp)] at e1
      rw [if_neg (by simp)]
      exact e1
theorem run_ok {n : Nat} {rows : List (List Int)} {ms us : List Int} (G : Good n rows ms) (h1 : 1 ≤ n) (h2 : n ≤ 6) (hul : us.length ≤ 60) (hu : ∀ x ∈ us, 0 ≤ x ∧ x < 64) :
    Ev (fun k => impl_Policy_run.f k rows ms us) ((List.range us.length).map (hitA rows ms us), (List.range us.length).map (oldA rows ms us), stt rows ms us us.length) := by
  have hml : ms.length = n := by rw [G.miss.length_eq, asc_length]; omega
  refine Ev.congr (run_l0 G h1 h2 hul hu us.length 0 (by omega) (by omega)) (fun k => ?_)
  unfold impl_Policy_run.f
  rw [empty_ok _ _ (by omega), Option.bind_some]
  rfl
theorem hitA_01 (rows : List (List Int)) (ms us : List Int) (i : Nat) : hitA rows ms us i = 0 ∨ hitA rows ms us i = 1 := by
  unfold hitA; split
  · exact .inr rfl
  · exact .inl rfl
theorem sum01 (l : List Int) (h : ∀ x ∈ l, x = 0 ∨ x = 1) : 0 ≤ l.sum ∧ l.sum ≤ l.length := by
  induction l with
  | nil => simp
  | cons a r ih =>
    have h1 := ih (fun x hx => h x (List.mem_cons_of_mem _ hx))
    have h2 := h a List.mem_cons_self
    simp only [List.sum_cons, List.length_cons]
    omega
theorem sum_take_succ (l : List Int) (i : Nat) (h : i < l.length) : (l.take (i + 1)).sum = (l.take i).sum + rd l (i : Int) := by
  rw [List.take_succ_eq_append_getElem h, List.sum_append, rd_get h]
  simp
theorem mem_take01 {l : List Int} (h : ∀ x ∈ l, x = 0 ∨ x = 1) (i : Nat) : ∀ x ∈ l.take i, x = 0 ∨ x = 1 := fun x hx => h x (List.mem_of_mem_take hx)
theorem misses_l0 (l : List Int) (hl : l.length ≤ 60) (h : ∀ x ∈ l, x = 0 ∨ x = 1) : ∀ (d i : Nat), l.length - i = d → i ≤ l.length → Ev (fun k => impl_Policy_misses.l0 k ((i : Int) - (l.take i).sum) l l.length i) ((l.length : Int) - l.sum) := by
  intro d
  induction d with
  | zero =>
    intro i hd hi
    obtain rfl : i = l.length := by omega
    refine Ev.step (Ev.const (o := some _) rfl) (fun k => ?_)
    simp only [impl_Policy_misses.l0]
    rw [if_neg (by omega), List.take_length]
  | succ d ih =>
    intro i hd hi
    refine Ev.step (ih (i + 1) (by omega) (by omega)) (fun k => ?_)
    have h1 := sum01 _ (mem_take01 h i)
    have h2 : rd l (i : Int) = 0 ∨ rd l (i : Int) = 1 := h _ (by rw [rd_get (by omega)]; exact List.getElem_mem _)
    have h3 : (l.take i).length ≤ 60 := by simp; omega
    have h4 := sum_take_succ l i (by omega)
    simp only [impl_Policy_misses.l0]
    rw [if_pos (by omega), if_pos (by omega), if_pos (by omega), w64 (x := 1 - rd l (i : Int)) (by omega) (by omega), w64 (x := (i : Int) - (l.take i).sum + (1 - rd l (i : Int))) (by omega) (by omega), w64 (by omega) (by omega), show (i : Int) + 1 = ((i + 1 : Nat) : Int) from by omega, h4,
      show (i : Int) - (l.take i).sum + (1 - rd l (i : Int)) = ((i + 1 : Nat) : Int) - ((l.take i).sum + rd l (i : Int)) from by omega]
theorem hits_01 (rows : List (List Int)) (ms us : List Int) : ∀ x ∈ (List.range us.length).map (hitA rows ms us), x = 0 ∨ x = 1 := by
  intro x hx
  obtain ⟨i, _, rfl⟩ := List.mem_map.1 hx
  exact hitA_01 rows ms us i
theorem misses_f {n : Nat} {rows : List (List Int)} {ms us : List Int} (G : Good n rows ms) (h1 : 1 ≤ n) (h2 : n ≤ 6) (hul : us.length ≤ 60) (hu : ∀ x ∈ us, 0 ≤ x ∧ x < 64) :
    Ev (fun k => impl_Policy_misses.f k rows ms us) ((us.length : Int) - ((List.range us.length).map (hitA rows ms us)).sum) := by
  have hl : ((List.range us.length).map (hitA rows ms us)).length = us.length := by simp
  have h3 := misses_l0 _ (by omega) (hits_01 rows ms us) us.length 0 (by rw [hl]; omega) (by omega)
  refine Ev.bind (G := fun k (bt : List Int × List Int × List Int) => impl_Policy_misses.l0 k 0 bt.1 (bt.1.length : Int) 0) (run_ok G h1 h2 hul hu) ?_
  rw [hl] at h3
  refine Ev.congr h3 (fun k => ?_)
  dsimp only
  rw [hl]
  rfl
/-! ### Optimal replacement, told by sets -/
/-- How many uses lie ahead of the next one of a. -/
def nx (w : List Int) (a : Int) : Nat := w.findIdx (· == a)
theorem nx_self (w : List Int) (a : Int) : nx (a :: w) a = 0 := by unfold nx; simp [List.findIdx_cons]
theorem nx_ne (w : List Int) {a b : Int} (h : b ≠ a) : nx (a :: w) b = nx w b + 1 := by
  unfold nx
  have : (a == b) = false := by simpa using fun e => h e.symm
  simp [List.findIdx_cons, this]
def cnt (w : List Int) (t : Nat) (S : List Int) : Nat := S.countP fun b => decide (nx w b < t)
theorem nodup_len : ∀ {l1 l2 : List Int}, l1.Nodup → (∀ x ∈ l1, x ∈ l2) → l1.length ≤ l2.length
  | [], _, _, _ => Nat.zero_le _
  | x :: t, l2, h, hs => by
    rw [List.nodup_cons] at h
    have hx : x ∈ l2 := hs x List.mem_cons_self
    have h1 : t.length ≤ (l2.erase x).length := nodup_len h.2 (fun y hy => (List.mem_erase_of_ne (by rintro rfl; exact h.1 hy)).2 (hs y (List.mem_cons_of_mem _ hy)))
    rw [List.length_erase_of_mem hx] at h1
    have := List.length_pos_of_mem hx
    simp only [List.length_cons]
    omega
theorem countP_sub {l1 l2 : List Int} (p : Int → Bool) (h : l1.Nodup) (hs : ∀ x ∈ l1, x ∈ l2) : l1.countP p ≤ l2.countP p := by
  rw [List.countP_eq_length_filter, List.countP_eq_length_filter]
  exact nodup_len (h.filter p) (fun x hx => List.mem_filter.2 ⟨hs x (List.mem_filter.1 hx).1, (List.mem_filter.1 hx).2⟩)
/-- What is there besides a. -/
def bes (a : Int) (S : List Int) : List Int := S.filter (· != a)
theorem bes_nodup {a : Int} {S : List Int} (h : S.Nodup) : (bes a S).Nodup := h.filter _
theorem bes_mem {a x : Int} {S : List Int} : x ∈ bes a S ↔ x ∈ S ∧ x ≠ a := by unfold bes; simp [List.mem_filter]
theorem bes_not {a : Int} {S : List Int} (h : a ∉ S) : bes a S = S := by
  unfold bes
  rw [List.filter_eq_self]
  intro x hx
  have : x ≠ a := fun e => h (e ▸ hx)
  simpa using this
theorem bes_perm {a : Int} {S : List Int} (hn : S.Nodup) (h : a ∈ S) : S.Perm (a :: bes a S) := by
  unfold bes
  rw [← hn.erase_eq_filter]
  exact List.perm_cons_erase h
theorem cnt_bes (w : List Int) (t : Nat) (a : Int) {S : List Int} (hn : S.Nodup) : cnt w t S = cnt w t (bes a S) + if a ∈ S ∧ nx w a < t then 1 else 0 := by
  unfold cnt
  by_cases h : a ∈ S
  · rw [(bes_perm hn h).countP_eq, List.countP_cons]
    simp [h]
  · rw [bes_not h]
    simp [h]
theorem cnt_cons (w : List Int) (t : Nat) (a : Int) {S : List Int} (hn : S.Nodup) : cnt (a :: w) (t + 1) S = cnt w t (bes a S) + if a ∈ S then 1 else 0 := by
  have key : cnt (a :: w) (t + 1) (bes a S) = cnt w t (bes a S) := by
    unfold cnt
    refine List.countP_congr fun b hb => ?_
    rw [nx_ne w (bes_mem.1 hb).2]
    simp
  rw [cnt_bes (a :: w) (t + 1) a hn, key, nx_self]
  simp
theorem cnt_le (w : List Int) (t : Nat) (S : List Int) : cnt w t S ≤ S.length := List.countP_le_length
/-- A schedule with k places: what it holds next, and how many uses it misses (byp: what is used need not be held). -/
inductive Sch (byp : Bool) (k : Nat) : List Int → List Int → Nat → Prop
  | nil (S : List Int) : Sch byp k [] S 0
  | cons {a : Int} {w S S' : List Int} {c : Nat} (hn : S'.Nodup) (hl : S'.length ≤ k) (hs : ∀ x ∈ S', x = a ∨ x ∈ S) (ha : byp = true ∨ a ∈ S') (h : Sch byp k w S' c) : Sch byp k (a :: w) S ((if a ∈ S then 0 else 1) + c)
/-- What may be given up. -/
def may (byp : Bool) (a : Int) (B : List Int) : List Int := if byp then a :: B else B
/-- The one that gives up what is used again last. -/
inductive Bel (byp : Bool) (k : Nat) : List Int → List Int → Nat → Prop
  | nil (B : List Int) : Bel byp k [] B 0
  | hit {a : Int} {w B : List Int} {c : Nat} (ha : a ∈ B) (h : Bel byp k w B c) : Bel byp k (a :: w) B c
  | room {a : Int} {w B B' : List Int} {c : Nat} (ha : a ∉ B) (hl : B.length < k) (hp : B'.Perm (a :: B)) (h : Bel byp k w B' c) : Bel byp k (a :: w) B (c + 1)
  | full {a y : Int} {w B B' : List Int} {c : Nat} (ha : a ∉ B) (hl : B.length = k) (hy : y ∈ may byp a B) (hm : ∀ b ∈ may byp a B, nx w b ≤ nx w y) (hp : B'.Perm ((a :: B).erase y)) (h : Bel byp k w B' c) : Bel byp k (a :: w) B (c + 1)
theorem may_sub {byp : Bool} {a y : Int} {B : List Int} (h : y ∈ may byp a B) : y ∈ a :: B := by
  unfold may at h
  cases byp
  · exact List.mem_cons_of_mem _ h
  · exact h
/-- What a schedule holds next, counted. -/
theorem sch_cnt {byp : Bool} {k : Nat} {a : Int} {w S S' : List Int} (t : Nat) (hS : S.Nodup) (hn : S'.Nodup) (hl : S'.length ≤ k) (hs : ∀ x ∈ S', x = a ∨ x ∈ S) (ha : byp = true ∨ a ∈ S') :
    cnt w t S' ≤ cnt w t (bes a S) + (if nx w a < t then 1 else 0) ∧ cnt w t S' ≤ k ∧ (byp = false → cnt w t S' + 1 ≤ k + if nx w a < t then 1 else 0) := by
  have h1 : cnt w t (bes a S') ≤ cnt w t (bes a S) := countP_sub _ (bes_nodup hn) (fun x hx => by
    obtain ⟨h2, h3⟩ := bes_mem.1 hx
    exact bes_mem.2 ⟨(hs x h2).resolve_left h3, h3⟩)
  have h2 := cnt_bes w t a hn
  have h3 := cnt_le w t S'
  have h4 : (if a ∈ S' ∧ nx w a < t then 1 else 0) ≤ (if nx w a < t then 1 else 0) := by
    split
    · rename_i h; rw [if_pos h.2]; omega
    · omega
  refine ⟨by omega, by omega, fun hb => ?_⟩
  have ha' : a ∈ S' := ha.resolve_left (by simp [hb])
  have h5 := (bes_perm hn ha').length_eq
  have h6 := cnt_le w t (bes a S')
  simp only [List.length_cons] at h5
  simp only [ha', true_and] at h2
  omega
/-- What the furthest one's going leaves, counted. -/
theorem bel_cnt {w B : List Int} {y : Int} (t : Nat) (hB : B.Nodup) (hy : y ∈ B) (P : List Int) (hP : ∀ b ∈ P, nx w b ≤ nx w y) (hsub : ∀ b ∈ B, b ∈ P ∨ b = y) : cnt w t (B.erase y) = cnt w t B ∨ cnt w t (B.erase y) + 1 = B.length := by
  have hp := List.perm_cons_erase hy
  have h1 : cnt w t B = cnt w t (B.erase y) + if nx w y < t then 1 else 0 := by
    unfold cnt
    rw [hp.countP_eq, List.countP_cons]
    simp
  by_cases h : nx w y < t
  · right
    have h2 : cnt w t B = B.length := by
      unfold cnt
      rw [List.countP_eq_length]
      intro b hb
      have : nx w b ≤ nx w y := by
        rcases hsub b hb with h3 | rfl
        · exact hP b h3
        · exact Nat.le_refl _
      simp; omega
    rw [if_pos h] at h1
    omega
  · left
    rw [if_neg h] at h1
    omega
theorem cnt_perm {w : List Int} {t : Nat} {A B : List Int} (h : A.Perm B) : cnt w t A = cnt w t B := h.countP_eq _
theorem cnt_more (w : List Int) (t : Nat) (a : Int) (B : List Int) : cnt w t (a :: B) = cnt w t B + if nx w a < t then 1 else 0 := by
  unfold cnt
  rw [List.countP_cons]
  simp
/-- No schedule misses fewer uses. -/
theorem opt {byp : Bool} {k : Nat} {w B : List Int} {c' : Nat} (hb : Bel byp k w B c') : ∀ (S : List Int) (c e : Nat), Sch byp k w S c → S.Nodup → B.Nodup → S.length ≤ k → B.length ≤ k → (∀ t, cnt w t S ≤ cnt w t B + e) → c' ≤ c + e := by
  induction hb with
  | nil B => intro S c e _ _ _ _ _ _; omega
  | @hit a w B c' ha h ih =>
    intro S c e hs hS hB hSl hBl hI
    cases hs with
    | @cons _ _ _ S' c hn hl hsub ha' h2 =>
      have h0 := hI 1
      rw [cnt_cons w 0 a hS, cnt_cons w 0 a hB, if_pos ha] at h0
      by_cases hm : a ∈ S
      · rw [if_pos hm]
        have := ih S' c e h2 hn hB hl hBl (fun t => by
          have h3 := hI (t + 1)
          rw [cnt_cons w t a hS, cnt_cons w t a hB, if_pos ha, if_pos hm] at h3
          have h4 := sch_cnt (w := w) t hS hn hl hsub ha'
          have h5 := cnt_bes w t a hB
          simp only [ha, true_and] at h5
          omega)
        omega
      · rw [if_neg hm]
        have := ih S' c (e + 1) h2 hn hB hl hBl (fun t => by
          have h3 := hI (t + 1)
          rw [cnt_cons w t a hS, cnt_cons w t a hB, if_pos ha, if_neg hm] at h3
          have h4 := sch_cnt (w := w) t hS hn hl hsub ha'
          have h5 := cnt_bes w t a hB
          simp only [ha, true_and] at h5
          omega)
        omega
  | @room a w B B' c' ha hlt hp h ih =>
    intro S c e hs hS hB hSl hBl hI
    have hB' : B'.Nodup := hp.nodup_iff.2 (List.nodup_cons.2 ⟨ha, hB⟩)
    have hBl' : B'.length ≤ k := by rw [hp.length_eq, List.length_cons]; omega
    cases hs with
    | @cons _ _ _ S' c hn hl hsub ha' h2 =>
      have h0 := hI 1
      rw [cnt_cons w 0 a hS, cnt_cons w 0 a hB, if_neg ha, bes_not ha] at h0
      have hz : ∀ L : List Int, cnt w 0 L = 0 := fun L => by unfold cnt; simp
      rw [hz, hz] at h0
      by_cases hm : a ∈ S
      · rw [if_pos hm] at h0 ⊢
        have := ih S' c (e - 1) h2 hn hB' hl hBl' (fun t => by
          have h3 := hI (t + 1)
          rw [cnt_cons w t a hS, cnt_cons w t a hB, if_neg ha, if_pos hm, bes_not ha] at h3
          have h4 := sch_cnt (w := w) t hS hn hl hsub ha'
          rw [cnt_perm hp, cnt_more]
          omega)
        omega
      · rw [if_neg hm]
        have := ih S' c e h2 hn hB' hl hBl' (fun t => by
          have h3 := hI (t + 1)
          rw [cnt_cons w t a hS, cnt_cons w t a hB, if_neg ha, if_neg hm, bes_not ha] at h3
          have h4 := sch_cnt (w := w) t hS hn hl hsub ha'
          rw [cnt_perm hp, cnt_more]
          omega)
        omega
  | @full a y w B B' c' ha hk hy hmax hp h ih =>
    intro S c e hs hS hB hSl hBl hI
    have hyB := may_sub hy
    have haB : (a :: B).Nodup := List.nodup_cons.2 ⟨ha, hB⟩
    have hB' : B'.Nodup := hp.nodup_iff.2 (haB.erase y)
    have hlen : B'.length = k := by rw [hp.length_eq, List.length_erase_of_mem hyB, List.length_cons]; omega
    -- what is left of B, counted
    have hcnt : ∀ t, cnt w t B' = cnt w t B + (if nx w a < t then 1 else 0) ∨ (byp = true ∧ cnt w t B' = k) ∨ (byp = false ∧ cnt w t B' + 1 = k + if nx w a < t then 1 else 0) := by
      intro t
      rw [cnt_perm hp]
      cases byp with
      | true =>
        rcases bel_cnt t haB hyB (a :: B) hmax (fun b hb => .inl hb) with h1 | h1
        · left; rw [h1, cnt_more]
        · right; left
          rw [List.length_cons] at h1
          exact ⟨rfl, by omega⟩
      | false =>
        have hy' : y ∈ B := hy
        have hne : (a == y) = false := by
          have : a ≠ y := fun e => ha (e ▸ hy')
          simpa using this
        have he : (a :: B).erase y = a :: B.erase y := by rw [List.erase_cons, hne]; rfl
        rw [he, cnt_more]
        rcases bel_cnt t hB hy' B hmax (fun b hb => .inl hb) with h1 | h1
        · left; rw [h1]
        · right; right
          exact ⟨rfl, by omega⟩
    cases hs with
    | @cons _ _ _ S' c hn hl hsub ha' h2 =>
      have h0 := hI 1
      rw [cnt_cons w 0 a hS, cnt_cons w 0 a hB, if_neg ha, bes_not ha] at h0
      have hz : ∀ L : List Int, cnt w 0 L = 0 := fun L => by unfold cnt; simp
      rw [hz, hz] at h0
      by_cases hm : a ∈ S
      · rw [if_pos hm] at h0 ⊢
        have := ih S' c (e - 1) h2 hn hB' hl (by omega) (fun t => by
          have h3 := hI (t + 1)
          rw [cnt_cons w t a hS, cnt_cons w t a hB, if_neg ha, if_pos hm, bes_not ha] at h3
          have h4 := sch_cnt (w := w) t hS hn hl hsub ha'
          rcases hcnt t with h5 | ⟨h5, h6⟩ | ⟨h5, h6⟩
          · omega
          · omega
          · have := h4.2.2 h5; omega)
        omega
      · rw [if_neg hm]
        have := ih S' c e h2 hn hB' hl (by omega) (fun t => by
          have h3 := hI (t + 1)
          rw [cnt_cons w t a hS, cnt_cons w t a hB, if_neg ha, if_neg hm, bes_not ha] at h3
          have h4 := sch_cnt (w := w) t hS hn hl hsub ha'
          rcases hcnt t with h5 | ⟨h5, h6⟩ | ⟨h5, h6⟩
          · omega
          · omega
          · have := h4.2.2 h5; omega)
        omega
theorem opt0 {byp : Bool} {k : Nat} {w : List Int} {c c' : Nat} (hb : Bel byp k w [] c') (hs : Sch byp k w [] c) : c' ≤ c := by
  have := opt hb [] c 0 hs List.nodup_nil List.nodup_nil (Nat.zero_le _) (Nat.zero_le _) (fun t => by omega)
  omega
theorem Bel.sch {byp : Bool} {k : Nat} {w B : List Int} {c : Nat} (h : Bel byp k w B c) : B.Nodup → B.length ≤ k → Sch byp k w B c := by
  induction h with
  | nil B => intro _ _; exact .nil B
  | @hit a w B c ha h ih =>
    intro hB hl
    have h1 := Sch.cons (byp := byp) (a := a) hB hl (fun x hx => .inr hx) (.inr ha) (ih hB hl)
    rw [if_pos ha, Nat.zero_add] at h1
    exact h1
  | @room a w B B' c ha hlt hp h ih =>
    intro hB hl
    have hB' : B'.Nodup := hp.nodup_iff.2 (List.nodup_cons.2 ⟨ha, hB⟩)
    have hl' : B'.length ≤ k := by rw [hp.length_eq, List.length_cons]; omega
    have h1 := Sch.cons (byp := byp) (a := a) (S := B) hB' hl' (fun x hx => List.mem_cons.1 (hp.mem_iff.1 hx)) (.inr (hp.mem_iff.2 List.mem_cons_self)) (ih hB' hl')
    rw [if_neg ha, Nat.add_comm] at h1
    exact h1
  | @full a y w B B' c ha hk hy hm hp h ih =>
    intro hB hl
    have hyB := may_sub hy
    have haB : (a :: B).Nodup := List.nodup_cons.2 ⟨ha, hB⟩
    have hB' : B'.Nodup := hp.nodup_iff.2 (haB.erase y)
    have hl' : B'.length ≤ k := by rw [hp.length_eq, List.length_erase_of_mem hyB, List.length_cons]; omega
    have h1 := Sch.cons (byp := byp) (a := a) (S := B) hB' hl' (fun x hx => List.mem_cons.1 (List.mem_of_mem_erase (hp.mem_iff.1 hx))) (by
      cases byp with
      | true => exact .inl rfl
      | false =>
        have hy' : y ∈ B := hy
        exact .inr (hp.mem_iff.2 ((List.mem_erase_of_ne (by rintro rfl; exact ha hy')).2 List.mem_cons_self))) (ih hB' hl')
    rw [if_neg ha, Nat.add_comm] at h1
    exact h1
theorem Sch.up {byp : Bool} {k k' : Nat} (hk : k ≤ k') {w S : List Int} {c : Nat} (h : Sch byp k w S c) : Sch byp k' w S c := by
  induction h with
  | nil S => exact .nil S
  | cons hn hl hs ha h ih => exact .cons hn (Nat.le_trans hl hk) hs ha ih
theorem Sch.free {byp : Bool} {k : Nat} {w S : List Int} {c : Nat} (h : Sch byp k w S c) : Sch true k w S c := by
  induction h with
  | nil S => exact .nil S
  | cons hn hl hs ha h ih => exact .cons hn hl hs (.inl rfl) ih
/-- One place more holds what is used, too. -/
theorem Sch.hold {byp : Bool} {k : Nat} {w S : List Int} {c : Nat} (h : Sch byp k w S c) : ∀ S2 : List Int, (∀ x ∈ S, x ∈ S2) → ∃ c2, c2 ≤ c ∧ Sch false (k + 1) w S2 c2 := by
  induction h with
  | nil S => intro S2 _; exact ⟨0, Nat.le_refl _, .nil S2⟩
  | @cons a w S S' c hn hl hs ha h ih =>
    intro S2 h2
    by_cases hm : a ∈ S'
    · obtain ⟨c2, h3, h4⟩ := ih S' (fun x hx => hx)
      refine ⟨_, ?_, Sch.cons (a := a) (S := S2) hn (by omega) (fun x hx => (hs x hx).imp id (h2 x)) (.inr hm) h4⟩
      by_cases hq : a ∈ S
      · rw [if_pos (h2 a hq), if_pos hq]; omega
      · rw [if_neg hq]; split <;> omega
    · obtain ⟨c2, h3, h4⟩ := ih (a :: S') (fun x hx => List.mem_cons_of_mem _ hx)
      refine ⟨_, ?_, Sch.cons (a := a) (S := S2) (List.nodup_cons.2 ⟨hm, hn⟩) (by simp; omega) (fun x hx => ?_) (.inr List.mem_cons_self) h4⟩
      · by_cases hq : a ∈ S
        · rw [if_pos (h2 a hq), if_pos hq]; omega
        · rw [if_neg hq]; split <;> omega
      · rcases List.mem_cons.1 hx with h5 | h5
        · exact .inl h5
        · exact (hs x h5).imp id (h2 x)
/-- When an address is used next from an index on, 60 if it is not. -/
def wt (us : List Int) (a : Int) (i : Nat) : Nat := if nx (us.drop i) a < (us.drop i).length then i + nx (us.drop i) a else 60
theorem nx_le (w : List Int) (a : Int) : nx w a ≤ w.length := List.findIdx_le_length
theorem wt_le {us : List Int} (hl : us.length ≤ 60) {i : Nat} {b y : Int} (h : wt us b i ≤ wt us y i) : nx (us.drop i) b ≤ nx (us.drop i) y := by
  unfold wt at h
  have h1 := nx_le (us.drop i) b
  have h2 := nx_le (us.drop i) y
  have h3 : (us.drop i).length = us.length - i := List.length_drop
  by_cases hy : nx (us.drop i) y < (us.drop i).length
  · rw [if_pos hy] at h
    by_cases hb : nx (us.drop i) b < (us.drop i).length
    · rw [if_pos hb] at h; omega
    · rw [if_neg hb] at h; omega
  · omega
theorem set_perm {l : List Int} (hn : l.Nodup) {j : Nat} {y : Int} (hj : l[j]? = some y) (a : Int) (ha : a ∉ l) : (l.set j a).Perm ((a :: l).erase y) := by
  have hy : y ∈ l := List.mem_of_getElem? hj
  have hne : (a == y) = false := by
    have : a ≠ y := by rintro rfl; exact ha hy
    simpa using this
  rw [List.erase_cons, hne]
  simp only [Bool.false_eq_true, if_false]
  obtain ⟨hjl, hjy⟩ := List.getElem?_eq_some_iff.1 hj
  have h1 : l.set j a = l.take j ++ a :: l.drop (j + 1) := List.set_eq_take_append_cons_drop .. |>.trans (by rw [if_pos hjl])
  have h2 : l = l.take j ++ y :: l.drop (j + 1) := by
    conv => lhs; rw [← List.take_append_drop j l, List.drop_eq_getElem_cons hjl, hjy]
  have h3 : (l.take j ++ l.drop (j + 1)).Perm (l.erase y) := by
    have h4 : l.Perm (y :: (l.take j ++ l.drop (j + 1))) := by
      conv => lhs; rw [h2]
      exact List.perm_middle
    have h5 := h4.symm.trans (List.perm_cons_erase hy)
    exact h5.cons_inv
  rw [h1]
  exact List.perm_middle.trans (h3.cons a)
/-! ### The optimal replacement, as it is printed -/
theorem index_nx_loop (l : List Int) (a : Int) (hl : l.length < 1000000) : ∀ (d i k : Nat), l.length - i = d → i ≤ l.length → d < k → (∀ j, j < i → rd l (j : Int) ≠ a) →
    slices_Index_int64_int64.l0 k l a l.length i = some (if nx l a < l.length then (nx l a : Int) else -1) := by
  intro d
  induction d with
  | zero =>
    intro i k hd hi hk hA
    obtain ⟨k, rfl⟩ : ∃ j, k = j + 1 := ⟨k - 1, by omega⟩
    simp only [slices_Index_int64_int64.l0]
    rw [if_neg (by omega), if_neg]
    intro hlt
    have h1 := List.findIdx_getElem (w := hlt)
    have h2 := hA _ (by omega : nx l a < i)
    rw [rd_get hlt] at h2
    simp at h1
    exact h2 h1
  | succ d ih =>
    intro i k hd hi hk hA
    obtain ⟨k, rfl⟩ : ∃ j, k = j + 1 := ⟨k - 1, by omega⟩
    have hi' : i < l.length := by omega
    simp only [slices_Index_int64_int64.l0]
    rw [if_pos (by omega), if_pos (by omega), if_pos (by omega)]
    by_cases hx : a = rd l (i : Int)
    · have e : nx l a = i := by
        unfold nx
        rw [List.findIdx_eq hi']
        refine ⟨by rw [hx, rd_get hi']; simp, fun j hj => ?_⟩
        have := hA j hj
        rw [rd_get (by omega)] at this
        simpa using this
      rw [if_pos hx, if_pos (by omega), e]
    · rw [if_neg hx, w64 (by omega) (by omega), show (i : Int) + 1 = ((i + 1 : Nat) : Int) from by omega]
      refine ih (i + 1) k (by omega) (by omega) (by omega) (fun j hj => ?_)
      by_cases e : j = i
      · subst e; exact fun h => hx h.symm
      · exact hA j (by omega)
theorem index_nx (l : List Int) (a : Int) (hl : l.length < 1000000) (k : Nat) (hk : l.length < k) : slices_Index_int64_int64.f k l a = some (if nx l a < l.length then (nx l a : Int) else -1) :=
  index_nx_loop l a hl l.length 0 k (by omega) (by omega) hk (by simp)
theorem nx_lt {l : List Int} {a : Int} : nx l a < l.length ↔ a ∈ l := by
  unfold nx
  rw [List.findIdx_lt_length]
  constructor
  · rintro ⟨x, hx, h⟩
    have : x = a := by simpa using h
    exact this ▸ hx
  · intro h
    exact ⟨a, h, by simp⟩
theorem nx_get {l : List Int} {a : Int} (h : nx l a < l.length) : l[nx l a]? = some a := by
  have h1 := List.findIdx_getElem (w := h)
  rw [List.getElem?_eq_getElem h]
  have h2 : l[nx l a] = a := eq_of_beq h1
  rw [h2]
theorem contains_ok (l : List Int) (a : Int) (hl : l.length < 1000000) (k : Nat) (hk : l.length < k) : slices_Contains_int64_int64.f k l a = some (decide (a ∈ l)) := by
  unfold slices_Contains_int64_int64.f
  rw [index_nx l a hl k hk, Option.bind_some]
  congr 1
  by_cases h : a ∈ l
  · rw [if_pos (nx_lt.2 h), decide_eq_true h, decide_eq_true (by omega)]
  · rw [if_neg (fun e => h (nx_lt.1 e)), decide_eq_false h, decide_eq_false (by omega)]
theorem waits_ok (us : List Int) (hul : us.length ≤ 60) (a : Int) (i : Nat) (hi : i ≤ us.length) (k : Nat) (hk : 61 ≤ k) : impl_waits.f k us a i = some (wt us a i : Int) := by
  have hd : (us.drop i).length = us.length - i := List.length_drop
  unfold impl_waits.f impl_nextUse.f wt
  rw [if_pos (by omega), if_pos (by omega), Int.toNat_natCast, index_nx _ a (by omega) k (by omega), Option.bind_some]
  by_cases h : nx (us.drop i) a < (us.drop i).length
  · rw [if_pos h, if_pos h, if_neg (by omega), Option.bind_some, w64 (by omega) (by omega), if_pos (by omega)]
    congr 1
  · rw [if_neg h, if_neg h, if_pos (by omega), Option.bind_some, if_neg (by omega)]
    rfl
theorem wt_small (us : List Int) (hul : us.length ≤ 60) (a : Int) (i : Nat) (hi : i ≤ us.length) : wt us a i ≤ 60 := by
  have hd : (us.drop i).length = us.length - i := List.length_drop
  unfold wt
  split <;> omega
theorem pickN_max (cf : Int → Int → Int) (W : Int → Nat) (l : List Int) (h : ∀ x y, x ∈ l → y ∈ l → (0 < cf x y → W y ≤ W x) ∧ (¬ 0 < cf x y → W x ≤ W y)) : ∀ t, t < l.length → ∀ j, j ≤ t → W (l.getD j 0) ≤ W (pickN cf l t)
  | 0, ht, j, hj => by
    obtain rfl : j = 0 := by omega
    exact Nat.le_refl _
  | t + 1, ht, j, hj => by
    have hm : l.getD (t + 1) 0 ∈ l := by
      rw [List.getD_eq_getElem?_getD, List.getElem?_eq_getElem ht]
      exact List.getElem_mem _
    obtain ⟨h1, h2⟩ := h _ _ hm (pickN_mem cf l t (by omega))
    unfold pickN
    by_cases hq : 0 < cf (l.getD (t + 1) 0) (pickN cf l t)
    · rw [if_pos hq]
      by_cases e : j = t + 1
      · subst e; exact Nat.le_refl _
      · exact Nat.le_trans (pickN_max cf W l h t (by omega) j (by omega)) (h1 hq)
    · rw [if_neg hq]
      by_cases e : j = t + 1
      · subst e; exact h2 hq
      · exact pickN_max cf W l h t (by omega) j (by omega)
theorem set_mem (l : List Int) (x : Int) : x ∈ Lib.compact (srt l) ↔ x ∈ l := by
  obtain ⟨_, h2⟩ := compactUpTo_sorted (srt l) (srt_sorted l) (srt l).length (Nat.le_refl _)
  rw [List.take_length] at h2
  have h3 := h2 x
  have h4 : x ∈ srt l ↔ x ∈ l := (List.mergeSort_perm l _).mem_iff
  exact h3.trans h4
theorem victim_ok (us : List Int) (hul : us.length ≤ 60) (inn : List Int) (hil : inn.length < 1000) (hne : inn ≠ []) (i : Nat) (hi : i ≤ us.length) :
    ∃ y, (∀ k, 61 ≤ k → impl_victim.f k us inn i = some y) ∧ y ∈ inn ∧ ∀ b ∈ inn, nx (us.drop i) b ≤ nx (us.drop i) y := by
  have hs := set_mem inn
  have hpos : 0 < (Lib.compact (srt inn)).length := by
    obtain ⟨x, hx⟩ := List.exists_mem_of_ne_nil inn hne
    exact List.length_pos_of_mem ((hs x).2 hx)
  have key : ∃ y, impl_victim.f 61 us inn i = some y ∧ y ∈ inn ∧ ∀ b ∈ inn, nx (us.drop i) b ≤ nx (us.drop i) y := by
    have hw := fun a => waits_ok us hul a i hi 61 (Nat.le_refl _)
    have hlt : (Lib.compact (srt inn)).length - 1 < (Lib.compact (srt inn)).length := by omega
    refine ⟨pickN (impl_victim.cf 61 us i) (Lib.compact (srt inn)) ((Lib.compact (srt inn)).length - 1), ?_, (hs _).1 (pickN_mem _ _ _ hlt), fun b hb => ?_⟩
    · unfold impl_victim.f
      rw [if_pos ⟨by omega, hpos, List.all_eq_true.2 fun a _ => by rw [hw a]; rfl⟩]
    · obtain ⟨j, hj, e⟩ := List.mem_iff_getElem.1 ((hs b).2 hb)
      refine wt_le hul ?_
      have h1 := pickN_max (impl_victim.cf 61 us i) (fun x => wt us x i) (Lib.compact (srt inn)) (fun x y _ _ => by
        have wx := wt_small us hul x i hi
        have wy := wt_small us hul y i hi
        unfold impl_victim.cf
        rw [hw x, hw y]
        simp only [Option.getD_some]
        have e1 : wrap64 ((wt us x i : Int) - (wt us y i : Int)) = (wt us x i : Int) - (wt us y i : Int) := w64 (by omega) (by omega)
        rw [e1]
        by_cases hz : (wt us x i : Int) - (wt us y i : Int) = 0
        · constructor <;> intro _ <;> omega
        · rw [if_neg hz]
          constructor <;> intro _ <;> omega) _ hlt j (by omega)
      rw [List.getD_eq_getElem?_getD, List.getElem?_eq_getElem hj] at h1
      simp only [Option.getD_some] at h1
      rw [e] at h1
      exact h1
  obtain ⟨y, h1, h2⟩ := key
  exact ⟨y, fun k hk => at_rounds (g := fun k => impl_victim.f k us inn i) (fun k => impl_victim.mono _ _ _ k) hk h1, h2⟩
theorem drop_rd {us : List Int} {i : Nat} (h : i < us.length) : us.drop i = rd us (i : Int) :: us.drop (i + 1) := by
  rw [List.drop_eq_getElem_cons h, rd_get h]
theorem best_l0 (us : List Int) (hul : us.length ≤ 60) (n : Nat) (h1 : 1 ≤ n) (hn : n ≤ 7) : ∀ (d i : Nat) (inn rp hs : List Int), us.length - i = d → i ≤ us.length → inn.Nodup → inn.length ≤ n → rp.length = i → hs.length = i →
    ∃ rs h2 c, Ev (fun k => impl_bestRun.l0 k us n inn rp hs us us.length i) (rs, hs ++ h2) ∧ Bel false n (us.drop i) inn c ∧ h2.length = d ∧ (c : Int) = d - h2.sum ∧ ∀ x ∈ h2, x = 0 ∨ x = 1 := by
  intro d
  induction d with
  | zero =>
    intro i inn rp hs hd hi _ _ _ _
    obtain rfl : i = us.length := by omega
    refine ⟨rp, [], 0, Ev.step (Ev.const (o := some (rp, hs ++ [])) rfl) (fun k => ?_), ?_, rfl, by simp, by simp⟩
    · simp only [impl_bestRun.l0]
      rw [if_neg (by omega), List.append_nil]
    · rw [List.drop_length]; exact .nil _
  | succ d ih =>
    intro i inn rp hs hd hi hnd hil hrp hhs
    have hi' : i < us.length := by omega
    have hr1 : rp.length < 17592186044416 := by omega
    have hh1 : hs.length < 17592186044416 := by omega
    have hw : wrap64 ((i : Int) + 1) = ((i + 1 : Nat) : Int) := by rw [w64 (by omega) (by omega)]; omega
    rw [drop_rd hi']
    by_cases hm : rd us (i : Int) ∈ inn
    · obtain ⟨rs, h2, c, ⟨k0, e⟩, hb, hl2, hc, h01⟩ := ih (i + 1) inn (rp ++ [-1]) (hs ++ [1]) (by omega) (by omega) hnd hil (by simp [hrp]) (by simp [hhs])
      refine ⟨rs, 1 :: h2, c, ⟨max k0 10 + 1, fun k hk => ?_⟩, .hit hm hb, by simp [hl2], by simp only [List.sum_cons]; omega, fun x hx => by
        rcases List.mem_cons.1 hx with rfl | hx
        · exact .inr rfl
        · exact h01 x hx⟩
      obtain ⟨k, rfl⟩ : ∃ j, k = j + 1 := ⟨k - 1, by omega⟩
      have e1 := e k (by omega)
      dsimp only at e1 ⊢
      simp only [impl_bestRun.l0]
      rw [if_pos (by omega), if_pos (by omega), if_pos (by omega), contains_ok inn _ (by omega) k (by omega), Option.bind_some, decide_eq_true hm, if_pos rfl, if_pos hr1, if_pos hh1, hw, e1, List.append_assoc]
      rfl
    · by_cases hlt : inn.length < n
      · obtain ⟨rs, h2, c, ⟨k0, e⟩, hb, hl2, hc, h01⟩ := ih (i + 1) (inn ++ [rd us (i : Int)]) (rp ++ [-1]) (hs ++ [0]) (by omega) (by omega) (by
          rw [List.nodup_append]
          exact ⟨hnd, by simp, fun x hx y hy e => hm (by rw [← List.mem_singleton.1 hy, ← e]; exact hx)⟩) (by simp; omega) (by simp [hrp]) (by simp [hhs])
        refine ⟨rs, 0 :: h2, c + 1, ⟨max k0 10 + 1, fun k hk => ?_⟩, .room hm hlt (List.perm_append_comm) hb, by simp [hl2], by simp only [List.sum_cons]; omega, fun x hx => by
          rcases List.mem_cons.1 hx with rfl | hx
          · exact .inl rfl
          · exact h01 x hx⟩
        obtain ⟨k, rfl⟩ : ∃ j, k = j + 1 := ⟨k - 1, by omega⟩
        have e1 := e k (by omega)
        dsimp only at e1 ⊢
        simp only [impl_bestRun.l0, impl_length_int64_67.f]
        rw [if_pos (by omega), if_pos (by omega), if_pos (by omega), contains_ok inn _ (by omega) k (by omega), Option.bind_some, decide_eq_false hm, if_neg (by decide), Option.bind_some, if_pos (by omega), if_pos (by omega), if_pos hr1, if_pos hh1, hw, e1, List.append_assoc]
        rfl
      · have hne : inn ≠ [] := by rintro rfl; simp at hlt; omega
        obtain ⟨y, ev, hy, hmax⟩ := victim_ok us hul inn (by omega) hne (i + 1) (by omega)
        have hjy := nx_get (nx_lt.2 hy)
        have hjl := nx_lt.2 hy
        have hp := set_perm hnd hjy (rd us (i : Int)) hm
        have haB : (rd us (i : Int) :: inn).Nodup := List.nodup_cons.2 ⟨hm, hnd⟩
        obtain ⟨rs, h2, c, ⟨k0, e⟩, hb, hl2, hc, h01⟩ := ih (i + 1) (inn.set (nx inn y) (rd us (i : Int))) (rp ++ [y]) (hs ++ [0]) (by omega) (by omega) (hp.nodup_iff.2 (haB.erase y)) (by simp; omega) (by simp [hrp]) (by simp [hhs])
        refine ⟨rs, 0 :: h2, c + 1, ⟨max k0 70 + 1, fun k hk => ?_⟩, .full (y := y) hm (by omega) hy hmax hp hb, by simp [hl2], by simp only [List.sum_cons]; omega, fun x hx => by
          rcases List.mem_cons.1 hx with rfl | hx
          · exact .inl rfl
          · exact h01 x hx⟩
        obtain ⟨k, rfl⟩ : ∃ j, k = j + 1 := ⟨k - 1, by omega⟩
        have e1 := e k (by omega)
        have ev1 := ev k (by omega)
        dsimp only at e1 ⊢
        simp only [impl_bestRun.l0, impl_length_int64_67.f]
        rw [if_pos (by omega), if_pos (by omega), if_pos (by omega), contains_ok inn _ (by omega) k (by omega), Option.bind_some, decide_eq_false hm, if_neg (by decide), Option.bind_some, if_neg (by omega), hw, ev1, Option.bind_some, index_nx inn y (by omega) k (by omega), Option.bind_some, if_pos hjl, if_pos (by omega), if_pos (by omega), if_pos hr1, if_pos hh1, Int.toNat_natCast, e1, List.append_assoc]
        rfl
theorem bestMis_l0 (l : List Int) (hl : l.length ≤ 60) (h : ∀ x ∈ l, x = 0 ∨ x = 1) (N : Int) (hN : 0 ≤ N) (hN2 : N ≤ 60) : ∀ (d i : Nat), l.length - i = d → i ≤ l.length → Ev (fun k => impl_bestMisses.l0 k (N - (l.take i).sum) l l.length i) (N - l.sum) := by
  intro d
  induction d with
  | zero =>
    intro i hd hi
    obtain rfl : i = l.length := by omega
    refine Ev.step (Ev.const (o := some _) rfl) (fun k => ?_)
    simp only [impl_bestMisses.l0]
    rw [if_neg (by omega), List.take_length]
  | succ d ih =>
    intro i hd hi
    refine Ev.step (ih (i + 1) (by omega) (by omega)) (fun k => ?_)
    have h1 := sum01 _ (mem_take01 h i)
    have h2 : rd l (i : Int) = 0 ∨ rd l (i : Int) = 1 := h _ (by rw [rd_get (by omega)]; exact List.getElem_mem _)
    have h3 : (l.take i).length ≤ 60 := by simp; omega
    have h4 := sum_take_succ l i (by omega)
    simp only [impl_bestMisses.l0]
    rw [if_pos (by omega), if_pos (by omega), if_pos (by omega), w64 (x := N - (l.take i).sum - rd l (i : Int)) (by omega) (by omega), w64 (by omega) (by omega), show (i : Int) + 1 = ((i + 1 : Nat) : Int) from by omega, h4,
      show N - (l.take i).sum - rd l (i : Int) = N - ((l.take i).sum + rd l (i : Int)) from by omega]
theorem best_ok (us : List Int) (hul : us.length ≤ 60) (n : Nat) (h1 : 1 ≤ n) (hn : n ≤ 7) : ∃ c : Nat, Ev (fun k => impl_bestMisses.f k us n) (c : Int) ∧ Bel false n us [] c ∧ c ≤ us.length := by
  obtain ⟨rs, h2, c, e, hb, hl2, hc, h01⟩ := best_l0 us hul n h1 hn us.length 0 [] [] [] (by omega) (by omega) List.nodup_nil (Nat.zero_le _) rfl rfl
  have hs := sum01 h2 h01
  refine ⟨c, ?_, hb, by omega⟩
  have h3 := bestMis_l0 h2 (by omega) h01 us.length (by omega) (by omega) h2.length 0 (by omega) (by omega)
  refine Ev.bind (G := fun k (bt : List Int × List Int) => (impl_length_int64_67.f us).bind fun t473 => (impl_bestMisses.l0 k t473 bt.2 (bt.2.length : Int) 0)) e ?_
  have hl4 := hl2
  rw [hc]
  rw [hl2] at h3
  refine Ev.congr h3 (fun k => ?_)
  have hl3 : h2.length = us.length := by assumption
  unfold impl_length_int64_67.f
  rw [Option.bind_some]
  simp [hl3]
theorem bel_pos {byp : Bool} {k : Nat} {a : Int} {w : List Int} {c : Nat} (h : Bel byp k (a :: w) [] c) : 1 ≤ c := by
  cases h with
  | hit ha _ => simp at ha
  | room _ _ _ _ => omega
  | full _ _ _ _ _ _ => omega
/-! ### Copies and comparisons -/
theorem toS_l0 (x : List Int) (hx : x.length ≤ 1048576) : ∀ (d i : Nat) (y : List Int), x.length - i = d → i ≤ x.length → y.length = x.length → y.take i = x.take i → Ev (fun k => laws_toInt64S.l0 k x y i) x := by
  intro d
  induction d with
  | zero =>
    intro i y hd hi hy ht
    obtain rfl : i = x.length := by omega
    have e : y = x := by rw [List.take_length, ← hy, List.take_length] at ht; exact ht
    subst e
    refine Ev.step (Ev.const (o := some y) rfl) (fun k => ?_)
    simp only [laws_toInt64S.l0]
    rw [if_neg (by omega)]
  | succ d ih =>
    intro i y hd hi hy ht
    have hi' : i < x.length := by omega
    refine Ev.step (ih (i + 1) (y.set i (rd x (i : Int))) (by omega) (by omega) (by simp [hy]) ?_) (fun k => ?_)
    · rw [List.take_succ_eq_append_getElem hi', List.take_succ_eq_append_getElem (by simp; omega), List.take_set_of_le (Nat.le_refl _), ht]
      congr 2
      simp [rd_get hi']
    · simp only [laws_toInt64S.l0]
      rw [if_pos (by omega), if_pos (by omega), if_pos (by omega), Int.toNat_natCast, w64 (by omega) (by omega), show (i : Int) + 1 = ((i + 1 : Nat) : Int) from by omega]
theorem toS_ok (x : List Int) (hx : x.length ≤ 1048576) : Ev (fun k => laws_toInt64S.f k x) x := by
  refine Ev.congr (toS_l0 x hx x.length 0 (List.replicate x.length 0) (by omega) (by omega) (by simp) rfl) (fun k => ?_)
  unfold laws_toInt64S.f
  rw [if_pos (by omega), Int.toNat_natCast, if_pos (by omega)]
  rfl
theorem rdL {x : List (List Int)} {i : Nat} (h : i < x.length) : rd_L1 x (i : Int) = x[i] := by
  unfold rd_L1
  simp [List.getD_eq_getElem?_getD, h]
theorem toSS_l0 (x : List (List Int)) (hx : x.length ≤ 1048576) (hr : ∀ r ∈ x, r.length ≤ 1048576) : ∀ (d i : Nat) (y : List (List Int)), x.length - i = d → i ≤ x.length → y.length = x.length → y.take i = x.take i → Ev (fun k => laws_toInt64SS.l0 k x y i) x := by
  intro d
  induction d with
  | zero =>
    intro i y hd hi hy ht
    obtain rfl : i = x.length := by omega
    have e : y = x := by rw [List.take_length, ← hy, List.take_length] at ht; exact ht
    subst e
    refine Ev.step (Ev.const (o := some y) rfl) (fun k => ?_)
    simp only [laws_toInt64SS.l0]
    rw [if_neg (by omega)]
  | succ d ih =>
    intro i y hd hi hy ht
    have hi' : i < x.length := by omega
    refine Ev.step (Ev.bind (G := fun k t => if (i : Int) < (y.length : Int) then laws_toInt64SS.l0 k x (y.set ((i : Int)).toNat t) (wrap64 ((i : Int) + 1)) else none) (toS_ok (rd_L1 x (i : Int)) (by rw [rdL hi']; exact hr _ (List.getElem_mem _))) ?_) (fun k => ?_)
    · refine Ev.congr (ih (i + 1) (y.set i (rd_L1 x (i : Int))) (by omega) (by omega) (by simp [hy]) ?_) (fun k => ?_)
      · rw [List.take_succ_eq_append_getElem hi', List.take_succ_eq_append_getElem (by simp; omega), List.take_set_of_le (Nat.le_refl _), ht]
        congr 2
        simp [rdL hi']
      · rw [if_pos (by omega), Int.toNat_natCast, w64 (by omega) (by omega), show (i : Int) + 1 = ((i + 1 : Nat) : Int) from by omega]
    · simp only [laws_toInt64SS.l0]
      rw [if_pos (by omega), if_pos (by omega)]
theorem toSS_ok (x : List (List Int)) (hx : x.length ≤ 1048576) (hr : ∀ r ∈ x, r.length ≤ 1048576) : Ev (fun k => laws_toInt64SS.f k x) x := by
  refine Ev.congr (toSS_l0 x hx hr x.length 0 (List.replicate x.length []) (by omega) (by omega) (by simp) rfl) (fun k => ?_)
  unfold laws_toInt64SS.f
  rw [if_pos (by omega), Int.toNat_natCast, if_pos (by omega)]
  rfl
theorem toP_ok (x : List (List Int)) (ms : List Int) (hx : x.length ≤ 1048576) (hr : ∀ r ∈ x, r.length ≤ 1048576) (hm : ms.length ≤ 1048576) : Ev (fun k => laws_toPolicy.f k x ms) (x, ms) :=
  Ev.bind (G := fun k t => (laws_toInt64S.f k ms).bind fun t371 => some (t, t371)) (toSS_ok x hx hr) (Ev.bind (G := fun _ t => some (x, t)) (toS_ok ms hm) (Ev.const rfl))
theorem eqS_l0 (x : List Int) (hx : x.length ≤ 1048576) : ∀ (d i : Nat), x.length - i = d → i ≤ x.length → Ev (fun k => laws_eqInt64S.l0 k x x i) true := by
  intro d
  induction d with
  | zero =>
    intro i hd hi
    refine Ev.step (Ev.const (o := some true) rfl) (fun k => ?_)
    simp only [laws_eqInt64S.l0]
    rw [if_neg (by omega)]
  | succ d ih =>
    intro i hd hi
    refine Ev.step (ih (i + 1) (by omega) (by omega)) (fun k => ?_)
    simp only [laws_eqInt64S.l0]
    rw [if_pos (by omega), if_pos (by omega), if_pos (by omega), if_pos True.intro, w64 (by omega) (by omega), show (i : Int) + 1 = ((i + 1 : Nat) : Int) from by omega]
theorem eqS_ok (x : List Int) (hx : x.length ≤ 1048576) : Ev (fun k => laws_eqInt64S.f k x x) true := by
  refine Ev.congr (eqS_l0 x hx x.length 0 (by omega) (by omega)) (fun k => ?_)
  unfold laws_eqInt64S.f
  rw [if_pos rfl]
  rfl
theorem eqSS_l0 (x : List (List Int)) (hx : x.length ≤ 1048576) (hr : ∀ r ∈ x, r.length ≤ 1048576) : ∀ (d i : Nat), x.length - i = d → i ≤ x.length → Ev (fun k => laws_eqInt64SS.l0 k x x i) true := by
  intro d
  induction d with
  | zero =>
    intro i hd hi
    refine Ev.step (Ev.const (o := some true) rfl) (fun k => ?_)
    simp only [laws_eqInt64SS.l0]
    rw [if_neg (by omega)]
  | succ d ih =>
    intro i hd hi
    have hi' : i < x.length := by omega
    refine Ev.step (Ev.bind (G := fun k t => if t = true then laws_eqInt64SS.l0 k x x (wrap64 ((i : Int) + 1)) else some false) (eqS_ok (rd_L1 x (i : Int)) (by rw [rdL hi']; exact hr _ (List.getElem_mem _))) ?_) (fun k => ?_)
    · refine Ev.congr (ih (i + 1) (by omega) (by omega)) (fun k => ?_)
      rw [if_pos rfl, w64 (by omega) (by omega), show (i : Int) + 1 = ((i + 1 : Nat) : Int) from by omega]
    · simp only [laws_eqInt64SS.l0]
      rw [if_pos (by omega), if_pos (by omega), if_pos (by omega)]
theorem eqP_ok (x : List (List Int)) (ms : List Int) (hx : x.length ≤ 1048576) (hr : ∀ r ∈ x, r.length ≤ 1048576) (hm : ms.length ≤ 1048576) : Ev (fun k => laws_eqPolicy.f k x ms x ms) true := by
  obtain ⟨a, ha⟩ := eqSS_l0 x hx hr x.length 0 (by omega) (by omega)
  obtain ⟨b, hb⟩ := eqS_ok ms hm
  refine ⟨max a b, fun k hk => ?_⟩
  have h1 := ha k (by omega)
  have h2 := hb k (by omega)
  dsimp only at h1 h2 ⊢
  unfold laws_eqPolicy.f laws_eqInt64SS.f
  rw [if_pos rfl]
  have h1' : laws_eqInt64SS.l0 k x x 0 = some true := h1
  rw [h1', Option.bind_some, if_pos rfl, h2, Option.bind_some, if_pos rfl]
/-! ### Sizes -/
theorem sz_l0 (x : List (List Int)) (hx : x.length ≤ 1048576) (hr : ∀ r ∈ x, r.length ≤ 9223372036854775807) : ∀ (d i : Nat) (left : Int), x.length - i = d → i ≤ x.length → 0 ≤ left → left ≤ 1048576 → (∀ j, j < i → (x.getD j []).length ≤ 1048576) →
    ∃ t, Ev (fun k => laws_szInt64SS.l0 k x left i) t ∧ t ≤ 1048576 ∧ (0 ≤ t → ∀ r ∈ x, r.length ≤ 1048576) := by
  intro d
  induction d with
  | zero =>
    intro i left hd hi h0 h1 hA
    obtain rfl : i = x.length := by omega
    refine ⟨left, Ev.step (Ev.const (o := some left) rfl) (fun k => ?_), h1, fun _ r hm => ?_⟩
    · simp only [laws_szInt64SS.l0]
      rw [if_neg (by omega)]
    · obtain ⟨j, hj, e⟩ := List.mem_iff_getElem.1 hm
      have := hA j hj
      rw [List.getD_eq_getElem?_getD, List.getElem?_eq_getElem hj] at this
      rw [← e]
      exact this
  | succ d ih =>
    intro i left hd hi h0 h1 hA
    have hi' : i < x.length := by omega
    have hri := hr _ (List.getElem_mem hi')
    have hrd := rdL hi'
    by_cases hb : left - (x[i].length : Int) < 0
    · refine ⟨-1, Ev.step (Ev.const (o := some (-1)) rfl) (fun k => ?_), by omega, fun h => by omega⟩
      simp only [laws_szInt64SS.l0, laws_szInt64S.f]
      rw [if_pos (by omega), if_pos (by omega), hrd, w64 (by omega) (by omega), if_pos hb, Option.bind_some, if_pos (by omega)]
    · obtain ⟨t, e, h2, h3⟩ := ih (i + 1) (left - (x[i].length : Int)) (by omega) (by omega) (by omega) (by omega) (fun j hj => by
        by_cases e : j = i
        · subst e
          rw [List.getD_eq_getElem?_getD, List.getElem?_eq_getElem hi']
          show x[j].length ≤ _
          omega
        · exact hA j (by omega))
      refine ⟨t, Ev.step e (fun k => ?_), h2, h3⟩
      simp only [laws_szInt64SS.l0, laws_szInt64S.f]
      rw [if_pos (by omega), if_pos (by omega), hrd, w64 (x := left - (x[i].length : Int)) (by omega) (by omega), if_neg hb, Option.bind_some, if_neg hb, w64 (by omega) (by omega), show (i : Int) + 1 = ((i + 1 : Nat) : Int) from by omega]
theorem sz_ok (x : List (List Int)) (ms : List Int) (hx : x.length ≤ 9223372036854775807) (hr : ∀ r ∈ x, r.length ≤ 9223372036854775807) (hm : ms.length ≤ 9223372036854775807) :
    ∃ t, Ev (fun k => laws_szPolicy.f k x ms 1048576) t ∧ (0 ≤ t → x.length ≤ 1048576 ∧ (∀ r ∈ x, r.length ≤ 1048576) ∧ ms.length ≤ 1048576) := by
  by_cases h1 : (1048576 : Int) - (x.length : Int) < 0
  · refine ⟨-1, ⟨0, fun k _ => ?_⟩, fun h => by omega⟩
    dsimp only
    unfold laws_szPolicy.f laws_szInt64SS.f
    rw [w64 (by omega) (by omega), if_pos h1, Option.bind_some, if_pos (by omega)]
  · obtain ⟨t, ⟨k0, e⟩, h2, h3⟩ := sz_l0 x (by omega) hr x.length 0 ((1048576 : Int) - (x.length : Int)) (by omega) (by omega) (by omega) (by omega) (fun j hj => by omega)
    have e0 : ∀ k, k0 ≤ k → laws_szInt64SS.f k x 1048576 = some t := fun k hk => by
      unfold laws_szInt64SS.f
      rw [w64 (by omega) (by omega), if_neg h1]
      exact e k hk
    by_cases h4 : t < 0
    · refine ⟨-1, ⟨k0, fun k hk => ?_⟩, fun h => by omega⟩
      dsimp only
      unfold laws_szPolicy.f
      rw [e0 k hk, Option.bind_some, if_pos h4]
    · by_cases h5 : t - (ms.length : Int) < 0
      · refine ⟨-1, ⟨k0, fun k hk => ?_⟩, fun h => by omega⟩
        dsimp only
        unfold laws_szPolicy.f laws_szInt64S.f
        rw [e0 k hk, Option.bind_some, if_neg h4, w64 (by omega) (by omega), if_pos h5, Option.bind_some, if_pos (by omega)]
      · refine ⟨t - (ms.length : Int), ⟨k0, fun k hk => ?_⟩, fun _ => ⟨by omega, h3 (by omega), by omega⟩⟩
        dsimp only
        unfold laws_szPolicy.f laws_szInt64S.f
        rw [e0 k hk, Option.bind_some, if_neg h4, w64 (by omega) (by omega), if_neg h5, Option.bind_some, if_neg h5]
/-! ### What is valid -/
theorem hasR_loop (l : List Int) (a : Int) (hl : l.length < 2000000) : ∀ (d i k : Nat), l.length - i = d → i ≤ l.length → d < k → a ∉ l.take i → spec_l00Has.l0 k l a i = some (decide (a ∈ l)) := by
  intro d
  induction d with
  | zero =>
    intro i k hd hi hk hA
    obtain ⟨k, rfl⟩ : ∃ j, k = j + 1 := ⟨k - 1, by omega⟩
    simp only [spec_l00Has.l0]
    rw [List.take_of_length_le (by omega)] at hA
    rw [if_neg (by omega), decide_eq_false hA]
  | succ d ih =>
    intro i k hd hi hk hA
    obtain ⟨k, rfl⟩ : ∃ j, k = j + 1 := ⟨k - 1, by omega⟩
    have hi' : i < l.length := by omega
    simp only [spec_l00Has.l0]
    rw [if_pos (by omega), if_pos (by omega), rd_get hi']
    by_cases hx : l[i] = a
    · rw [if_pos hx, decide_eq_true (by rw [← hx]; exact List.getElem_mem _)]
    · rw [if_neg hx, w64 (by omega) (by omega), show (i : Int) + 1 = ((i + 1 : Nat) : Int) from by omega]
      refine ih (i + 1) k (by omega) (by omega) (by omega) ?_
      rw [List.take_succ_eq_append_getElem hi', List.mem_append, List.mem_singleton]
      rintro (h | h)
      · exact hA h
      · exact hx h.symm
theorem hasR (l : List Int) (a : Int) (hl : l.length < 2000000) (k : Nat) (hk : l.length < k) : spec_l00Has.f k l a = some (decide (a ∈ l)) :=
  hasR_loop l a hl l.length 0 k (by omega) (by omega) hk (by simp)
theorem ord_perm {n : Nat} {x : List Int} (hn : x.Nodup) (hr : ∀ a ∈ x, 0 ≤ a ∧ a < n) (hl : x.length = n) : x.Perm (asc n) := by
  have hal : (asc (n : Int)).length = n := by rw [asc_length]; omega
  have hasc : (asc (n : Int)).Nodup := by
    have := asc_sorted (n : Int)
    unfold asc
    rw [List.nodup_iff_pairwise_ne, List.pairwise_map]
    exact List.pairwise_lt_range.imp (fun {a b} h => by intro e; have e' : (a : Int) = (b : Int) := e; omega)
  have hmem : ∀ a : Int, 0 ≤ a → a < n → a ∈ asc (n : Int) := fun a h0 h1 => by
    unfold asc
    rw [List.mem_map]
    exact ⟨a.toNat, by rw [List.mem_range]; omega, by show ((a.toNat : Nat) : Int) = a; omega⟩
  rw [List.perm_ext_iff_of_nodup hn hasc]
  intro a
  constructor
  · intro h
    have := hr a h
    exact hmem a this.1 this.2
  · intro h
    by_cases hax : a ∈ x
    · exact hax
    · exfalso
      have h1 : (a :: x).Nodup := List.nodup_cons.2 ⟨hax, hn⟩
      have h2 := nodup_len h1 (l2 := asc (n : Int)) (fun b hb => by
        rcases List.mem_cons.1 hb with rfl | hb
        · exact h
        · have := hr b hb
          exact hmem b this.1 this.2)
      rw [hal, List.length_cons] at h2
      omega
theorem perm_of_isOrd {n : Nat} {x : List Int} (h : isOrd n x = true) : x.Perm (asc n) := by
  unfold isOrd at h
  simp only [Bool.and_eq_true, decide_eq_true_iff] at h
  rw [← h.2]
  exact (List.mergeSort_perm _ _).symm
theorem asc_nodup (n : Nat) : (asc (n : Int)).Nodup := by
  unfold asc
  rw [List.nodup_iff_pairwise_ne, List.pairwise_map]
  exact List.pairwise_lt_range.imp (fun {a b} h => by intro e; have e' : (a : Int) = (b : Int) := e; omega)
theorem order_loop (n : Nat) (hn : n ≤ 1048576) (x : List Int) (hx : x.length ≤ 1048576) : ∀ (d i : Nat), x.length - i = d → i ≤ x.length → (x.take i).Nodup → (∀ a ∈ x.take i, 0 ≤ a ∧ a < n) → Ev (fun k => spec_l03Order.l0 k x n i) (isOrd n x) := by
  intro d
  induction d with
  | zero =>
    intro i hd hi hnd hr
    obtain rfl : i = x.length := by omega
    rw [List.take_length] at hnd hr
    refine Ev.step (Ev.const (o := some (isOrd n x)) rfl) (fun k => ?_)
    simp only [spec_l03Order.l0]
    rw [if_neg (by omega)]
    congr 1
    by_cases hl : x.length = n
    · rw [isOrd_of_perm (ord_perm hnd hr hl), hl]; simp
    · have : isOrd n x = false := by
        unfold isOrd
        rw [decide_eq_false (by omega), Bool.false_and]
      rw [this, beq_eq_false_iff_ne]
      omega
  | succ d ih =>
    intro i hd hi hnd hr
    have hi' : i < x.length := by omega
    have hrd := rd_get hi'
    have hmem : x[i] ∈ x := List.getElem_mem _
    have hno : (¬ (0 ≤ x[i] ∧ x[i] < (n : Int))) → isOrd n x = false := fun hq => by
      cases hb : isOrd n x with
      | false => rfl
      | true => exact absurd (asc_mem ((perm_of_isOrd hb).mem_iff.1 hmem)) hq
    by_cases hin : 0 ≤ x[i] ∧ x[i] < (n : Int)
    · by_cases hdup : x[i] ∈ x.take i
      · have hf : isOrd n x = false := by
          cases hb : isOrd n x with
          | false => rfl
          | true =>
            exfalso
            have h1 : x.Nodup := (perm_of_isOrd hb).nodup_iff.2 (asc_nodup n)
            rw [← List.take_append_drop i x, List.nodup_append, List.drop_eq_getElem_cons hi'] at h1
            exact h1.2.2 _ hdup _ List.mem_cons_self rfl
        rw [hf]
        refine ⟨x.length + 10, fun k hk => ?_⟩
        obtain ⟨k, rfl⟩ : ∃ j, k = j + 1 := ⟨k - 1, by omega⟩
        dsimp only
        simp only [spec_l03Order.l0, spec_l00In.f]
        rw [if_pos (by omega), if_pos (by omega), hrd, if_pos hin.1, Option.bind_some, w64 (by omega) (by omega), decide_eq_true (by omega), if_pos rfl, if_pos (by omega), Int.toNat_natCast, hasR _ _ (by simp; omega) k (by simp; omega), Option.bind_some, decide_eq_true hdup, if_pos rfl]
      · have hnx : (x.take (i + 1)).Nodup := by
          rw [List.take_succ_eq_append_getElem hi', List.nodup_append]
          exact ⟨hnd, by simp, fun a ha b hb e => hdup (by rw [← List.mem_singleton.1 hb, ← e]; exact ha)⟩
        obtain ⟨k0, e⟩ := ih (i + 1) (by omega) (by omega) hnx (fun a ha => by
          rw [List.take_succ_eq_append_getElem hi', List.mem_append, List.mem_singleton] at ha
          rcases ha with ha | rfl
          · exact hr a ha
          · exact hin)
        refine ⟨max k0 (x.length + 10) + 1, fun k hk => ?_⟩
        obtain ⟨k, rfl⟩ : ∃ j, k = j + 1 := ⟨k - 1, by omega⟩
        have e1 := e k (by omega)
        dsimp only at e1 ⊢
        simp only [spec_l03Order.l0, spec_l00In.f]
        rw [if_pos (by omega), if_pos (by omega), hrd, if_pos hin.1, Option.bind_some, w64 (x := (n : Int) - 1) (by omega) (by omega), decide_eq_true (by omega), if_pos rfl, if_pos (by omega), Int.toNat_natCast, hasR _ _ (by simp; omega) k (by simp; omega), Option.bind_some, decide_eq_false hdup, if_neg (by decide), w64 (by omega) (by omega), show (i : Int) + 1 = ((i + 1 : Nat) : Int) from by omega]
        exact e1
    · rw [hno hin]
      refine Ev.step (Ev.const (o := some false) rfl) (fun k => ?_)
      simp only [spec_l03Order.l0, spec_l00In.f]
      rw [if_pos (by omega), if_pos (by omega), hrd]
      by_cases h0 : x[i] ≥ 0
      · rw [if_pos h0, Option.bind_some, w64 (by omega) (by omega), decide_eq_false (by omega), if_neg (by decide)]
      · rw [if_neg h0, Option.bind_some, if_neg (by decide)]
theorem order_f (n : Nat) (hn : n ≤ 1048576) (x : List Int) (hx : x.length ≤ 1048576) : Ev (fun k => spec_l03Order.f k x n) (isOrd n x) :=
  order_loop n hn x hx x.length 0 (by omega) (by omega) (by simp) (by simp)
/-- Enough rounds for all. -/
theorem ev_all {α : Type} {β : Type} {F : Nat → α → Option β} {v : α → β} : ∀ l : List α, (∀ x ∈ l, Ev (fun k => F k x) (v x)) → ∃ K, ∀ k, K ≤ k → ∀ x ∈ l, F k x = some (v x)
  | [], _ => ⟨0, fun _ _ _ h => by simp at h⟩
  | a :: r, h => by
    obtain ⟨K1, h1⟩ := ev_all r (fun x hx => h x (List.mem_cons_of_mem _ hx))
    obtain ⟨K2, h2⟩ := h a List.mem_cons_self
    refine ⟨max K1 K2, fun k hk x hx => ?_⟩
    rcases List.mem_cons.1 hx with rfl | hx
    · exact h2 k (by omega)
    · exact h1 k (by omega) x hx
theorem valid_eq (rows : List (List Int)) (ms : List Int) (hx : rows.length ≤ 1048576) (hr : ∀ r ∈ rows, r.length ≤ 1048576) (hm : ms.length ≤ 1048576) :
    ∃ b, impl_ValidPolicy.f rows ms = some b ∧ Ev (fun k => l03IsF k rows ms) b ∧ (b = true → 1 ≤ ms.length ∧ ms.length ≤ 6 ∧ Good ms.length rows ms) := by
  obtain ⟨K1, h1⟩ := order_f ms.length hm ms hm
  obtain ⟨K2, h2⟩ := ev_all (F := fun k x => spec_l03Order.f k x ms.length) (v := isOrd ms.length) rows (fun x hxm => order_f ms.length hm x (hr x hxm))
  refine ⟨inR 1 6 ms.length && decide (rows.length = ms.length) && isOrd ms.length ms && rows.all (isOrd ms.length), ?_, ⟨max K1 K2, fun k hk => ?_⟩, fun hb => ?_⟩
  · unfold impl_ValidPolicy.f
    rw [if_pos ⟨by omega, List.all_eq_true.2 fun x hxm => by have := hr x hxm; simp; omega⟩]
  · have q1 := h1 k (by omega)
    have q2 := h2 k (by omega)
    dsimp only at q1 ⊢
    unfold l03IsF
    rw [if_pos ⟨by rw [q1]; rfl, List.all_eq_true.2 fun x hxm => by rw [q2 x hxm]; rfl⟩, q1]
    congr 1
    have e1 : (rows.all fun x => (spec_l03Order.f k x ms.length).getD false) = rows.all (isOrd ms.length) := by
      rw [Bool.eq_iff_iff, List.all_eq_true, List.all_eq_true]
      constructor
      · intro h x hxm
        have := h x hxm
        rw [q2 x hxm] at this
        exact this
      · intro h x hxm
        rw [q2 x hxm]
        exact h x hxm
    rw [e1]
    have e2 : inR 1 6 (ms.length : Int) = (decide (1 ≤ ms.length) && decide (ms.length ≤ 6)) := by
      unfold inR
      rw [show decide ((1 : Int) ≤ (ms.length : Int)) = decide (1 ≤ ms.length) from by rw [Bool.eq_iff_iff, decide_eq_true_iff, decide_eq_true_iff]; omega, show decide ((ms.length : Int) ≤ 6) = decide (ms.length ≤ 6) from by rw [Bool.eq_iff_iff, decide_eq_true_iff, decide_eq_true_iff]; omega]
    rw [e2]
    rfl
  · simp only [Bool.and_eq_true, decide_eq_true_iff] at hb
    obtain ⟨⟨⟨h3, h4⟩, h5⟩, h6⟩ := hb
    unfold inR at h3
    simp only [Bool.and_eq_true, decide_eq_true_iff] at h3
    exact ⟨by omega, by omega, h4, fun x hxm => perm_of_isOrd (List.all_eq_true.1 h6 x hxm), perm_of_isOrd h5⟩
theorem uses_loop (us : List Int) (hu : us.length ≤ 1048576) : ∀ (d i : Nat), us.length - i = d → i ≤ us.length → (∀ j, j < i → inR 0 63 (us.getD j 0) = true) → Ev (fun k => spec_l02Uses.l0 k us i) (decide (us.length ≤ 60) && us.all (inR 0 63)) := by
  intro d
  induction d with
  | zero =>
    intro i hd hi hA
    obtain rfl : i = us.length := by omega
    have hall : us.all (inR 0 63) = true := by
      rw [List.all_eq_true]
      intro x hx
      obtain ⟨j, hj, e⟩ := List.mem_iff_getElem.1 hx
      have := hA j hj
      rw [List.getD_eq_getElem?_getD, List.getElem?_eq_getElem hj] at this
      rw [← e]
      exact this
    refine Ev.step (Ev.const (o := some (decide (us.length ≤ 60) && us.all (inR 0 63))) rfl) (fun k => ?_)
    simp only [spec_l02Uses.l0]
    rw [if_neg (by omega), hall, Bool.and_true]
    congr 1
    rw [Bool.eq_iff_iff, decide_eq_true_iff, decide_eq_true_iff]
    omega
  | succ d ih =>
    intro i hd hi hA
    have hi' : i < us.length := by omega
    have hrd := rd_get hi'
    have hg : us.getD i 0 = us[i] := by rw [List.getD_eq_getElem?_getD, List.getElem?_eq_getElem hi']; rfl
    have ha : spec_l02Address.f us[i] = some (inR 0 63 us[i]) := by
      unfold spec_l02Address.f spec_l00In.f inR
      by_cases h0 : us[i] ≥ 0
      · rw [if_pos h0, Option.bind_some, decide_eq_true (show (0 : Int) ≤ us[i] from h0), Bool.true_and]
      · rw [if_neg h0, Option.bind_some, decide_eq_false (show ¬ (0 : Int) ≤ us[i] from h0), Bool.false_and]
    by_cases hin : inR 0 63 us[i] = true
    · refine Ev.step (ih (i + 1) (by omega) (by omega) (fun j hj => by
        by_cases e : j = i
        · subst e; rw [hg]; exact hin
        · exact hA j (by omega))) (fun k => ?_)
      simp only [spec_l02Uses.l0]
      rw [if_pos (by omega), if_pos (by omega), hrd, ha, Option.bind_some, if_pos hin, w64 (by omega) (by omega), show (i : Int) + 1 = ((i + 1 : Nat) : Int) from by omega]
    · have hall : us.all (inR 0 63) = false := by
        rw [List.all_eq_false]
        exact ⟨us[i], List.getElem_mem _, hin⟩
      rw [hall, Bool.and_false]
      refine Ev.step (Ev.const (o := some false) rfl) (fun k => ?_)
      simp only [spec_l02Uses.l0]
      rw [if_pos (by omega), if_pos (by omega), hrd, ha, Option.bind_some, if_neg hin]
theorem uses_eq (us : List Int) (hu : us.length ≤ 1048576) : ∃ b, impl_ValidUses.f us = some b ∧ Ev (fun k => spec_l02Uses.f k us) b ∧ (b = true → us.length ≤ 60 ∧ ∀ x ∈ us, 0 ≤ x ∧ x < 64) := by
  refine ⟨decide (us.length ≤ 60) && us.all (inR 0 63), ?_, uses_loop us hu us.length 0 (by omega) (by omega) (fun j hj => by omega), fun hb => ?_⟩
  · unfold impl_ValidUses.f impl_allIn.f
    by_cases h : us.length ≤ 60
    · rw [if_pos (by omega), Option.bind_some, decide_eq_true h, Bool.true_and]
    · rw [if_neg (by omega), decide_eq_false h, Bool.false_and]
  · simp only [Bool.and_eq_true, decide_eq_true_iff] at hb
    refine ⟨hb.1, fun x hx => ?_⟩
    have := List.all_eq_true.1 hb.2 x hx
    unfold inR at this
    simp only [Bool.and_eq_true, decide_eq_true_iff] at this
    omega
/-! ### The reference's steps are the program's -/
theorem stp_eq {n : Nat} {rows : List (List Int)} {ms c : List Int} (G : Good n rows ms) (h1 : 1 ≤ n) (h2 : n ≤ 6) (h : Cont n c) (a : Int) :
    stp rows ms c a = if a ∈ c then ((rows.getD (nx c a) []).map (rd c), -1, true) else (ms.map (rd (c.set (n - 1) a)), rd c ((n - 1 : Nat) : Int), false) := by
  have hcl := h.len
  have hml : ms.length = n := by rw [G.miss.length_eq, asc_length]; omega
  have hrl := G.len
  unfold stp impl_Policy_step.f
  rw [index_nx c a (by omega) 10 (by omega), Option.bind_some]
  by_cases hm : a ∈ c
  · have hlt := nx_lt.2 hm
    have hp : (rows.getD (nx c a) []).Perm (asc n) := by
      rw [List.getD_eq_getElem?_getD, List.getElem?_eq_getElem (by omega)]
      exact G.row _ (List.getElem_mem _)
    have er : rd_L1 rows ((nx c a : Nat) : Int) = rows.getD (nx c a) [] := by unfold rd_L1; simp
    have hpl : (rows.getD (nx c a) []).length = n := by rw [hp.length_eq, asc_length]; omega
    rw [if_pos hlt, if_pos hm, if_pos (by omega), if_pos (by omega), if_pos (by omega), er, permuted_ok _ _ (by omega) (by omega) (fun x hx => by have := asc_mem (hp.mem_iff.1 hx); omega) 10 (by omega), Option.bind_some]
    rfl
  · rw [if_neg (fun e => hm (nx_lt.1 e)), if_neg hm, if_neg (by omega)]
    unfold slices_Clone_int64_int64.f
    rw [if_pos (by omega), Option.bind_some, w64 (by omega) (by omega), if_pos (by omega), if_pos (by omega), show (c.length : Int) - 1 = ((n - 1 : Nat) : Int) from by omega, Int.toNat_natCast,
      permuted_ok _ _ (by simp; omega) (by omega) (fun x hx => by have := asc_mem (G.miss.mem_iff.1 hx); simp; omega) 10 (by omega), Option.bind_some]
    rfl
theorem age_loop (l : List Int) (a : Int) (hl : l.length < 1000000) : ∀ (d i k : Nat), l.length - i = d → i ≤ l.length → d < k → (∀ j, j < i → rd l (j : Int) ≠ a) →
    spec_l03Age.l0 k l a i = some (if nx l a < l.length then (nx l a : Int) else -1) := by
  intro d
  induction d with
  | zero =>
    intro i k hd hi hk hA
    obtain ⟨k, rfl⟩ : ∃ j, k = j + 1 := ⟨k - 1, by omega⟩
    simp only [spec_l03Age.l0]
    rw [if_neg (by omega), if_neg]
    intro hlt
    have h1 := List.findIdx_getElem (w := hlt)
    have h2 := hA _ (by omega : nx l a < i)
    rw [rd_get hlt] at h2
    simp at h1
    exact h2 h1
  | succ d ih =>
    intro i k hd hi hk hA
    obtain ⟨k, rfl⟩ : ∃ j, k = j + 1 := ⟨k - 1, by omega⟩
    have hi' : i < l.length := by omega
    simp only [spec_l03Age.l0]
    rw [if_pos (by omega), if_pos (by omega)]
    by_cases hx : rd l (i : Int) = a
    · have e : nx l a = i := by
        unfold nx
        rw [List.findIdx_eq hi']
        refine ⟨by rw [← hx, rd_get hi']; simp, fun j hj => ?_⟩
        have := hA j hj
        rw [rd_get (by omega)] at this
        simpa using this
      rw [if_pos hx, if_pos (by omega), e]
    · rw [if_neg hx, w64 (by omega) (by omega), show (i : Int) + 1 = ((i + 1 : Nat) : Int) from by omega]
      refine ih (i + 1) k (by omega) (by omega) (by omega) (fun j hj => ?_)
      by_cases e : j = i
      · subst e; exact hx
      · exact hA j (by omega)
theorem permO_ok {n : Nat} {ord old : List Int} (hp : ord.Perm (asc n)) (hl : old.length = n) (h2 : n ≤ 6) : permO ord old = some (ord.map (rd old)) := by
  have hol : ord.length = n := by rw [hp.length_eq, asc_length]; omega
  unfold permO
  rw [if_pos ⟨by omega, List.all_eq_true.2 fun x hx => by have := asc_mem (hp.mem_iff.1 hx); simp; omega⟩]
theorem stepF_ok {n : Nat} {rows : List (List Int)} {ms c : List Int} (G : Good n rows ms) (h1 : 1 ≤ n) (h2 : n ≤ 6) (h : Cont n c) (a : Int) (k : Nat) (hk : 10 ≤ k) :
    l03StepF k rows ms c a = some ((stp rows ms c a).1, decide (a ∈ c)) := by
  have hcl := h.len
  have hrl := G.len
  rw [stp_eq G h1 h2 h a]
  unfold l03StepF
  rw [if_pos ⟨by omega, by omega⟩, show spec_l03Age.f k c a = spec_l03Age.l0 k c a ((0 : Nat) : Int) from rfl, age_loop c a (by omega) c.length 0 k (by omega) (by omega) (by omega) (by simp), Option.bind_some]
  by_cases hm : a ∈ c
  · have hlt := nx_lt.2 hm
    have hp : (rows.getD (nx c a) []).Perm (asc n) := by
      rw [List.getD_eq_getElem?_getD, List.getElem?_eq_getElem (by omega)]
      exact G.row _ (List.getElem_mem _)
    rw [if_pos hlt, if_pos hm, if_pos (by omega), Int.toNat_natCast, if_pos (by omega), permO_ok hp hcl h2, decide_eq_true hm]
    rfl
  · rw [if_neg (fun e => hm (nx_lt.1 e)), if_neg hm, if_neg (by omega), hcl, permO_ok G.miss (by simp [hcl]) h2, decide_eq_false hm]
    rfl
theorem runL_ok {n : Nat} {rows : List (List Int)} {ms us : List Int} (G : Good n rows ms) (h1 : 1 ≤ n) (h2 : n ≤ 6) (hul : us.length ≤ 60) (hu : ∀ x ∈ us, 0 ≤ x ∧ x < 64) (k : Nat) (hk : 10 ≤ k) : ∀ (d i q : Nat), us.length - i = d → i ≤ us.length → d < q →
    l03RunL k rows ms us q ((List.range i).map (hitA rows ms us)) (stt rows ms us i) i = some ((List.range us.length).map (hitA rows ms us), stt rows ms us us.length) := by
  intro d
  induction d with
  | zero =>
    intro i q hd hi hq
    obtain ⟨q, rfl⟩ : ∃ j, q = j + 1 := ⟨q - 1, by omega⟩
    obtain rfl : i = us.length := by omega
    rw [l03RunL, if_neg (by omega)]
  | succ d ih =>
    intro i q hd hi hq
    obtain ⟨q, rfl⟩ : ∃ j, q = j + 1 := ⟨q - 1, by omega⟩
    have hx := hu _ (show rd us (i : Int) ∈ us from by rw [rd_get (by omega)]; exact List.getElem_mem _)
    have hc := stt_cont G h1 h2 hu i (by omega)
    have e1 := ih (i + 1) q (by omega) (by omega) (by omega)
    obtain ⟨_, _, _, hh, _, _, _⟩ := stp_ok G h1 h2 hc _ hx.1 hx.2
    rw [← range_snoc, show stt rows ms us (i + 1) = (stp rows ms (stt rows ms us i) (rd us (i : Int))).1 from rfl,
      show hitA rows ms us i = if (stp rows ms (stt rows ms us i) (rd us (i : Int))).2.2 = true then 1 else 0 from rfl, hh] at e1
    rw [l03RunL, if_pos (by omega), if_pos (by omega), stepF_ok G h1 h2 hc _ k hk, Option.bind_some, w64 (by omega) (by omega), show (i : Int) + 1 = ((i + 1 : Nat) : Int) from by omega]
    exact e1
theorem misL_ok (l : List Int) (hl : l.length ≤ 60) (h : ∀ x ∈ l, x = 0 ∨ x = 1) (N : Int) (hN : 0 ≤ N) (hN2 : N ≤ 60) : ∀ (d i q : Nat), l.length - i = d → i ≤ l.length → d < q → l03MisL l q (N - (l.take i).sum) i = some (N - l.sum) := by
  intro d
  induction d with
  | zero =>
    intro i q hd hi hq
    obtain ⟨q, rfl⟩ : ∃ j, q = j + 1 := ⟨q - 1, by omega⟩
    obtain rfl : i = l.length := by omega
    rw [l03MisL, if_neg (by omega), List.take_length]
  | succ d ih =>
    intro i q hd hi hq
    obtain ⟨q, rfl⟩ : ∃ j, q = j + 1 := ⟨q - 1, by omega⟩
    have h1 := sum01 _ (mem_take01 h i)
    have h2 : rd l (i : Int) = 0 ∨ rd l (i : Int) = 1 := h _ (by rw [rd_get (by omega)]; exact List.getElem_mem _)
    have h3 : (l.take i).length ≤ 60 := by simp; omega
    have h4 := sum_take_succ l i (by omega)
    have e1 := ih (i + 1) q (by omega) (by omega) (by omega)
    rw [l03MisL, if_pos (by omega), if_pos (by omega), w64 (x := N - (l.take i).sum - rd l (i : Int)) (by omega) (by omega), w64 (by omega) (by omega), show (i : Int) + 1 = ((i + 1 : Nat) : Int) from by omega,
      show N - (l.take i).sum - rd l (i : Int) = N - ((l.take i).sum + rd l (i : Int)) from by omega, ← h4]
    exact e1
theorem misF_ok {n : Nat} {rows : List (List Int)} {ms us : List Int} (G : Good n rows ms) (h1 : 1 ≤ n) (h2 : n ≤ 6) (hul : us.length ≤ 60) (hu : ∀ x ∈ us, 0 ≤ x ∧ x < 64) :
    Ev (fun k => l03MisF k rows ms us) ((us.length : Int) - ((List.range us.length).map (hitA rows ms us)).sum) := by
  have hml : ms.length = n := by rw [G.miss.length_eq, asc_length]; omega
  have hl : ((List.range us.length).map (hitA rows ms us)).length = us.length := by simp
  refine ⟨100, fun k hk => ?_⟩
  dsimp only
  have e1 := runL_ok G h1 h2 hul hu k (by omega) us.length 0 k (by omega) (by omega) (by omega)
  have e2 := misL_ok _ (by omega) (hits_01 rows ms us) us.length (by omega) (by omega) us.length 0 k (by rw [hl]; omega) (by omega) (by omega)
  unfold l03MisF l03RunF
  rw [if_pos ⟨by omega, by omega⟩]
  have e1' : l03RunL k rows ms us k [] (List.replicate ms.length (-1)) 0 = some ((List.range us.length).map (hitA rows ms us), stt rows ms us us.length) := e1
  rw [e1', Option.bind_some]
  dsimp only
  rw [hl]
  have e3 : ((us.length : Nat) : Int) - (((List.range us.length).map (hitA rows ms us)).take 0).sum = (us.length : Int) := by simp
  rw [e3] at e2
  exact e2
/-! ### The reference's optimal replacement -/
theorem next_l0 (us : List Int) (hul : us.length ≤ 60) (a : Int) : ∀ (d j : Nat), us.length - j = d → j ≤ us.length → ∀ k, d < k → spec_l05Next.l0 k us a j = some (wt us a j : Int) := by
  intro d
  induction d with
  | zero =>
    intro j hd hj k hk
    obtain ⟨k, rfl⟩ : ∃ i, k = i + 1 := ⟨k - 1, by omega⟩
    obtain rfl : j = us.length := by omega
    simp only [spec_l05Next.l0]
    rw [if_neg (by omega)]
    unfold wt
    rw [List.drop_length]
    rfl
  | succ d ih =>
    intro j hd hj k hk
    obtain ⟨k, rfl⟩ : ∃ i, k = i + 1 := ⟨k - 1, by omega⟩
    have hj' : j < us.length := by omega
    have e := ih (j + 1) (by omega) (by omega) k (by omega)
    have hdl : (us.drop (j + 1)).length = us.length - (j + 1) := List.length_drop
    simp only [spec_l05Next.l0]
    rw [if_pos (by omega), if_pos (by omega)]
    by_cases hx : rd us (j : Int) = a
    · rw [if_pos hx]
      unfold wt
      rw [drop_rd hj', hx, nx_self, if_pos (by simp), Nat.add_zero]
    · rw [if_neg hx, w64 (by omega) (by omega), show (j : Int) + 1 = ((j + 1 : Nat) : Int) from by omega, e]
      unfold wt
      rw [drop_rd hj', nx_ne _ (fun e => hx e.symm), List.length_cons]
      by_cases hq : nx (us.drop (j + 1)) a < (us.drop (j + 1)).length
      · rw [if_pos hq, if_pos (by omega)]
        congr 2
        omega
      · rw [if_neg hq, if_neg (by omega)]
theorem next_ok (us : List Int) (hul : us.length ≤ 60) (a : Int) (i : Nat) (hi : i < us.length) (k : Nat) (hk : 61 ≤ k) : spec_l05Next.f k us i a = some (wt us a (i + 1) : Int) := by
  unfold spec_l05Next.f
  rw [w64 (by omega) (by omega), show (i : Int) + 1 = ((i + 1 : Nat) : Int) from by omega]
  exact next_l0 us hul a (us.length - (i + 1)) (i + 1) rfl (by omega) k (by omega)
theorem put_l0 (l : List Int) (a : Int) (ha : a ∉ l) (hl : l.length < 1000) : ∀ (d i : Nat) (acc : List Int) (done : Bool), l.length - i = d → i ≤ l.length → acc.length ≤ i + 1 → (done = false → acc = l.take i) → (done = true → acc.Perm (a :: l.take i)) →
    ∃ r, Ev (fun k => spec_l00Put.l0 k l a acc done i) r ∧ r.Perm (a :: l) := by
  intro d
  induction d with
  | zero =>
    intro i acc done hd hi hal hf ht
    obtain rfl : i = l.length := by omega
    cases done with
    | true =>
      have h1 := ht rfl
      rw [List.take_length] at h1
      refine ⟨acc, Ev.step (Ev.const (o := some acc) rfl) (fun k => ?_), h1⟩
      simp only [spec_l00Put.l0]
      rw [if_neg (by omega), if_pos True.intro]
    | false =>
      have h1 := hf rfl
      rw [List.take_length] at h1
      subst h1
      refine ⟨acc ++ [a], Ev.step (Ev.const (o := some (acc ++ [a])) rfl) (fun k => ?_), List.perm_append_comm⟩
      simp only [spec_l00Put.l0]
      rw [if_neg (by omega), if_neg (by decide), if_pos (by omega)]
  | succ d ih =>
    intro i acc done hd hi hal hf ht
    have hi' : i < l.length := by omega
    have hrd := rd_get hi'
    have hne : l[i] ≠ a := fun e => ha (e ▸ List.getElem_mem hi')
    have htk : l.take (i + 1) = l.take i ++ [rd l (i : Int)] := by rw [List.take_succ_eq_append_getElem hi', hrd]
    have hw : wrap64 ((i : Int) + 1) = ((i + 1 : Nat) : Int) := by rw [w64 (by omega) (by omega)]; omega
    cases done with
    | true =>
      obtain ⟨r, ⟨k0, e⟩, hp⟩ := ih (i + 1) (acc ++ [rd l (i : Int)]) true (by omega) (by omega) (by simp; omega) (by simp) (fun _ => by
        rw [htk]
        exact (ht rfl).append_right _)
      refine ⟨r, ⟨k0 + 2, fun k hk => ?_⟩, hp⟩
      obtain ⟨k, rfl⟩ : ∃ j, k = j + 2 := ⟨k - 2, by omega⟩
      have e1 := e k (by omega)
      dsimp only at e1 ⊢
      simp only [spec_l00Put.l0, spec_l00Put.j1]
      rw [if_pos (by omega), if_pos True.intro, if_neg (by decide), if_pos (by omega), if_pos (by omega), if_pos (by omega), hw]
      exact e1
    | false =>
      have h1 := hf rfl
      by_cases hge : rd l (i : Int) ≥ a
      · have hgt : rd l (i : Int) > a := by rw [hrd] at hge ⊢; omega
        obtain ⟨r, ⟨k0, e⟩, hp⟩ := ih (i + 1) ((acc ++ [a]) ++ [rd l (i : Int)]) true (by omega) (by omega) (by rw [h1]; simp; omega) (by simp) (fun _ => by
          rw [htk, h1]
          exact (List.perm_append_comm (l₁ := l.take i) (l₂ := [a])).append_right _)
        refine ⟨r, ⟨k0 + 2, fun k hk => ?_⟩, hp⟩
        obtain ⟨k, rfl⟩ : ∃ j, k = j + 2 := ⟨k - 2, by omega⟩
        have e1 := e k (by omega)
        dsimp only at e1 ⊢
        simp only [spec_l00Put.l0, spec_l00Put.j1]
        rw [if_pos (by omega), if_neg (by decide), if_pos (by omega), decide_eq_true hge, if_pos rfl, if_pos (by omega), if_pos (by omega), if_pos hgt, if_pos (by omega), Option.bind_some, if_pos (by simp; omega), hw]
        exact e1
      · obtain ⟨r, ⟨k0, e⟩, hp⟩ := ih (i + 1) (acc ++ [rd l (i : Int)]) false (by omega) (by omega) (by simp; omega) (fun _ => by rw [htk, h1]) (by simp)
        refine ⟨r, ⟨k0 + 2, fun k hk => ?_⟩, hp⟩
        obtain ⟨k, rfl⟩ : ∃ j, k = j + 2 := ⟨k - 2, by omega⟩
        have e1 := e k (by omega)
        dsimp only at e1 ⊢
        simp only [spec_l00Put.l0, spec_l00Put.j1]
        rw [if_pos (by omega), if_neg (by decide), if_pos (by omega), decide_eq_false hge, if_neg (by decide), if_pos (by omega), if_pos (by omega), if_pos (by omega), hw]
        exact e1
theorem put_ok (l : List Int) (a : Int) (ha : a ∉ l) (hl : l.length < 1000) : ∃ r, Ev (fun k => spec_l00Put.f k l a) r ∧ r.Perm (a :: l) :=
  put_l0 l a ha hl l.length 0 [] false (by omega) (by omega) (by simp) (by simp) (by simp)
theorem run_l2 (us : List Int) (n : Nat) (vs : List Int) (hs : List Bool) (now : List Int) (i : Nat) (v : Int) (b : Nat) (hb : b < now.length) (hn : now.length < 1000) (R : List Int × List Bool)
    (hR : Ev (fun k => spec_l05Run.l2 k us n vs hs now i v false b (now.eraseIdx b) now.length) R) : ∀ (d j : Nat), now.length - j = d → j ≤ now.length → Ev (fun k => spec_l05Run.l2 k us n vs hs now i v false b ((now.take j).eraseIdx b) j) R := by
  intro d
  induction d with
  | zero =>
    intro j hd hj
    obtain rfl : j = now.length := by omega
    rw [List.take_length]
    exact hR
  | succ d ih =>
    intro j hd hj
    have hj' : j < now.length := by omega
    have hrd := rd_get hj'
    refine Ev.step (ih (j + 1) (by omega) (by omega)) (fun k => ?_)
    simp only [spec_l05Run.l2]
    rw [if_pos (by omega), w64 (by omega) (by omega), show (j : Int) + 1 = ((j + 1 : Nat) : Int) from by omega]
    by_cases e : j = b
    · subst e
      rw [if_pos rfl]
      congr 1
      rw [List.eraseIdx_of_length_le (by simp; omega), List.take_succ_eq_append_getElem hj', List.eraseIdx_append_of_length_le (by simp; omega)]
      have : (now.take j).length = j := by simp; omega
      rw [this, Nat.sub_self]
      simp
    · have hle : ((now.take j).eraseIdx b).length ≤ j := by
        have h1 := List.length_eraseIdx_le (l := now.take j) (i := b)
        have h2 : (now.take j).length ≤ j := List.length_take_le _ _
        omega
      rw [if_neg (by omega), if_pos (by omega), if_pos (by omega), hrd]
      congr 1
      rw [List.take_succ_eq_append_getElem hj']
      by_cases hbj : b < j
      · rw [List.eraseIdx_append_of_lt_length (by simp; omega)]
      · rw [List.eraseIdx_of_length_le (by simp; omega), List.eraseIdx_of_length_le (by simp; omega)]
theorem run_l1 (us : List Int) (n : Nat) (vs : List Int) (hs : List Bool) (now : List Int) (i : Nat) (hn : now.length < 1000) (W : Nat → Nat) (hW : ∀ q, q < now.length → ∀ k, 61 ≤ k → spec_l05Next.f k us i (rd now (q : Int)) = some (W q : Int)) : ∀ (d j b : Nat), now.length - j = d → j ≤ now.length → b < j → (∀ q, q < j → W q ≤ W b) →
    ∃ b2, b2 < now.length ∧ (∀ q, q < now.length → W q ≤ W b2) ∧ ∀ R, Ev (fun k => spec_l05Run.l2 k us n vs hs now i (rd now (b2 : Int)) false b2 [] 0) R → Ev (fun k => spec_l05Run.l1 k us n vs hs now i false b j) R := by
  intro d
  induction d with
  | zero =>
    intro j b hd hj hbj hA
    obtain rfl : j = now.length := by omega
    refine ⟨b, hbj, hA, fun R hR => Ev.step hR (fun k => ?_)⟩
    simp only [spec_l05Run.l1]
    rw [if_neg (by omega), if_pos (by omega), if_pos (by omega)]
  | succ d ih =>
    intro j b hd hj hbj hA
    have hj' : j < now.length := by omega
    have hjW := hW j hj'
    have hbW := hW b (by omega)
    have hw : wrap64 ((j : Int) + 1) = ((j + 1 : Nat) : Int) := by rw [w64 (by omega) (by omega)]; omega
    by_cases hgt : W b < W j
    · obtain ⟨b2, h1, h2, h3⟩ := ih (j + 1) j (by omega) (by omega) (by omega) (fun q hq => by
        by_cases e : q = j
        · subst e; exact Nat.le_refl _
        · exact Nat.le_trans (hA q (by omega)) (Nat.le_of_lt hgt))
      refine ⟨b2, h1, h2, fun R hR => ?_⟩
      obtain ⟨k0, e⟩ := h3 R hR
      refine ⟨max k0 70 + 1, fun k hk => ?_⟩
      obtain ⟨k, rfl⟩ : ∃ q, k = q + 1 := ⟨k - 1, by omega⟩
      have e1 := e k (by omega)
      dsimp only at e1 ⊢
      simp only [spec_l05Run.l1]
      rw [if_pos (by omega), if_pos (by omega), hjW k (by omega), Option.bind_some, if_pos (by omega), if_pos (by omega), hbW k (by omega), Option.bind_some, if_pos (by omega), hw]
      exact e1
    · obtain ⟨b2, h1, h2, h3⟩ := ih (j + 1) b (by omega) (by omega) (by omega) (fun q hq => by
        by_cases e : q = j
        · subst e; omega
        · exact hA q (by omega))
      refine ⟨b2, h1, h2, fun R hR => ?_⟩
      obtain ⟨k0, e⟩ := h3 R hR
      refine ⟨max k0 70 + 1, fun k hk => ?_⟩
      obtain ⟨k, rfl⟩ : ∃ q, k = q + 1 := ⟨k - 1, by omega⟩
      have e1 := e k (by omega)
      dsimp only at e1 ⊢
      simp only [spec_l05Run.l1]
      rw [if_pos (by omega), if_pos (by omega), hjW k (by omega), Option.bind_some, if_pos (by omega), if_pos (by omega), hbW k (by omega), Option.bind_some, if_neg (by omega), hw]
      exact e1
/-- How many are false. -/
def nf (l : List Bool) : Nat := l.countP (fun b => !b)
theorem sbest_l0 (us : List Int) (hul : us.length ≤ 60) (n : Nat) (h1 : 1 ≤ n) (hn : n ≤ 7) : ∀ (d i : Nat) (now vs : List Int) (hs : List Bool), us.length - i = d → i ≤ us.length → now.Nodup → now.length ≤ n → vs.length = i → hs.length = i →
    ∃ v2 h2 c, Ev (fun k => spec_l05Run.l0 k us n vs hs now i) (v2, hs ++ h2) ∧ Bel false n (us.drop i) now c ∧ h2.length = d ∧ nf h2 = c := by
  intro d
  induction d with
  | zero =>
    intro i now vs hs hd hi _ _ _ _
    obtain rfl : i = us.length := by omega
    refine ⟨vs, [], 0, Ev.step (Ev.const (o := some (vs, hs ++ [])) rfl) (fun k => ?_), ?_, rfl, rfl⟩
    · simp only [spec_l05Run.l0]
      rw [if_neg (by omega), List.append_nil]
    · rw [List.drop_length]; exact .nil _
  | succ d ih =>
    intro i now vs hs hd hi hnd hil hvs hhs
    have hi' : i < us.length := by omega
    have hr1 : vs.length < 17592186044416 := by omega
    have hh1 : hs.length < 140737488355328 := by omega
    have hw : wrap64 ((i : Int) + 1) = ((i + 1 : Nat) : Int) := by rw [w64 (by omega) (by omega)]; omega
    rw [drop_rd hi']
    by_cases hm : rd us (i : Int) ∈ now
    · obtain ⟨v2, h2, c, ⟨k0, e⟩, hb, hl2, hc⟩ := ih (i + 1) now (vs ++ [-1]) (hs ++ [true]) (by omega) (by omega) hnd hil (by simp [hvs]) (by simp [hhs])
      refine ⟨v2, true :: h2, c, ⟨max k0 20 + 2, fun k hk => ?_⟩, .hit hm hb, by simp [hl2], by unfold nf at hc ⊢; rw [List.countP_cons]; simpa using hc⟩
      obtain ⟨k, rfl⟩ : ∃ j, k = j + 2 := ⟨k - 2, by omega⟩
      have e1 := e k (by omega)
      dsimp only at e1 ⊢
      simp only [spec_l05Run.l0, spec_l05Run.j1]
      rw [if_pos (by omega), if_pos (by omega), hasR now _ (by omega) (k + 1) (by omega), Option.bind_some, decide_eq_true hm, if_pos rfl, if_neg (by decide), if_pos rfl, if_pos hr1, if_pos hh1, hw, e1, List.append_assoc]
      rfl
    · by_cases hlt : now.length < n
      · obtain ⟨r, ⟨kp, ep⟩, hp⟩ := put_ok now (rd us (i : Int)) hm (by omega)
        have hrn : r.Nodup := hp.nodup_iff.2 (List.nodup_cons.2 ⟨hm, hnd⟩)
        have hrl : r.length = now.length + 1 := by rw [hp.length_eq, List.length_cons]
        obtain ⟨v2, h2, c, ⟨k0, e⟩, hb, hl2, hc⟩ := ih (i + 1) r (vs ++ [-1]) (hs ++ [false]) (by omega) (by omega) hrn (by omega) (by simp [hvs]) (by simp [hhs])
        refine ⟨v2, false :: h2, c + 1, ⟨max (max k0 kp) 20 + 2, fun k hk => ?_⟩, .room hm hlt hp hb, by simp [hl2], by unfold nf at hc ⊢; rw [List.countP_cons, hc]; rfl⟩
        obtain ⟨k, rfl⟩ : ∃ j, k = j + 2 := ⟨k - 2, by omega⟩
        have e1 := e k (by omega)
        have ep1 := ep k (by omega)
        dsimp only at e1 ep1 ⊢
        simp only [spec_l05Run.l0, spec_l05Run.j1]
        rw [if_pos (by omega), if_pos (by omega), hasR now _ (by omega) (k + 1) (by omega), Option.bind_some, decide_eq_false hm, if_neg (by decide), if_neg (by simp; omega), if_neg (by decide), if_pos (by omega), if_pos (by omega), ep1, Option.bind_some, if_pos hr1, if_pos hh1, hw, e1, List.append_assoc]
        rfl
      · have hlen : now.length = n := by omega
        obtain ⟨b2, hb2, hmax, hcont⟩ := run_l1 us n vs hs now i (by omega) (fun q => wt us (rd now (q : Int)) (i + 1)) (fun q _ k hk => next_ok us hul _ i hi' k hk) (now.length - 1) 1 0 (by omega) (by omega) (by omega) (fun q hq => by
          obtain rfl : q = 0 := by omega
          exact Nat.le_refl _)
        have hy : now[b2]? = some now[b2] := List.getElem?_eq_getElem hb2
        have hgd : ∀ q, (hq : q < now.length) → now.getD q 0 = now[q] := fun q hq => by rw [List.getD_eq_getElem?_getD, List.getElem?_eq_getElem hq]; rfl
        have hym : now[b2] ∈ now := List.getElem_mem _
        have her : now.eraseIdx b2 = now.erase now[b2] := by
          rw [List.erase_eq_eraseIdx]
          have hidx : now.idxOf? now[b2] = some b2 := by
            rw [List.idxOf?_eq_some_iff]
            refine ⟨hb2, rfl, fun j hj e => ?_⟩
            have h7 := List.pairwise_iff_getElem.1 (List.nodup_iff_pairwise_ne.1 hnd) j b2 (by omega) hb2 hj
            exact h7 e
          rw [hidx]
        have hne : rd us (i : Int) ∉ now.erase now[b2] := fun hq => hm (List.mem_of_mem_erase hq)
        obtain ⟨r, ⟨kp, ep⟩, hp⟩ := put_ok (now.eraseIdx b2) (rd us (i : Int)) (by rw [her]; exact hne) (by rw [List.length_eraseIdx_of_lt hb2]; omega)
        have hnew : (rd us (i : Int) :: now).erase now[b2] = rd us (i : Int) :: now.erase now[b2] := by
          have hq : (rd us (i : Int) == now[b2]) = false := by
            have : rd us (i : Int) ≠ now[b2] := fun e => hm (e ▸ hym)
            simpa using this
          rw [List.erase_cons, hq]; rfl
        have hp' : r.Perm ((rd us (i : Int) :: now).erase now[b2]) := by rw [hnew, ← her]; exact hp
        have hrn : r.Nodup := hp'.nodup_iff.2 ((List.nodup_cons.2 ⟨hm, hnd⟩).erase _)
        have hrl : r.length = n := by rw [hp.length_eq, List.length_cons, List.length_eraseIdx_of_lt hb2]; omega
        obtain ⟨v2, h2, c, ⟨k0, e⟩, hb, hl2, hc⟩ := ih (i + 1) r (vs ++ [rd now (b2 : Int)]) (hs ++ [false]) (by omega) (by omega) hrn (by omega) (by simp [hvs]) (by simp [hhs])
        -- behind the loop that copies
        have hR : Ev (fun k => spec_l05Run.l2 k us n vs hs now i (rd now (b2 : Int)) false b2 (now.eraseIdx b2) now.length) (v2, (hs ++ [false]) ++ h2) := by
          refine ⟨max (max k0 kp) 20 + 1, fun k hk => ?_⟩
          obtain ⟨k, rfl⟩ : ∃ j, k = j + 1 := ⟨k - 1, by omega⟩
          have e1 := e k (by omega)
          have ep1 := ep k (by omega)
          dsimp only at e1 ep1 ⊢
          simp only [spec_l05Run.l2]
          rw [if_neg (by omega), if_neg (by decide), if_pos (by omega), if_pos (by omega), ep1, Option.bind_some, if_pos hr1, if_pos hh1, hw, e1]
        have h0 := run_l2 us n vs hs now i (rd now (b2 : Int)) b2 hb2 (by omega) _ hR now.length 0 (by omega) (by omega)
        obtain ⟨k1, e1⟩ := hcont _ h0
        refine ⟨v2, false :: h2, c + 1, ⟨max k1 20 + 2, fun k hk => ?_⟩, .full (y := now[b2]) hm hlen hym (fun b hbm => ?_) hp' hb, by simp [hl2], by unfold nf at hc ⊢; rw [List.countP_cons, hc]; rfl⟩
        · obtain ⟨k, rfl⟩ : ∃ j, k = j + 2 := ⟨k - 2, by omega⟩
          have e2 := e1 k (by omega)
          dsimp only at e2 ⊢
          simp only [spec_l05Run.l0, spec_l05Run.j1]
          rw [if_pos (by omega), if_pos (by omega), hasR now _ (by omega) (k + 1) (by omega), Option.bind_some, decide_eq_false hm, if_neg (by decide), if_pos (by simp; omega)]
          rw [List.append_assoc] at e2
          exact e2
        · obtain ⟨q, hq, eq⟩ := List.mem_iff_getElem.1 (show b ∈ now from hbm)
          have h8 := hmax q hq
          rw [rd_get hq, rd_get hb2, eq] at h8
          exact wt_le hul h8
theorem nf_take (l : List Bool) (i : Nat) (h : i < l.length) : nf (l.take (i + 1)) = nf (l.take i) + if l[i] = true then 0 else 1 := by
  unfold nf
  rw [List.take_succ_eq_append_getElem h, List.countP_append]
  congr 1
  cases l[i] <;> rfl
theorem smis_l0 (l : List Bool) (hl : l.length ≤ 60) : ∀ (d i : Nat), l.length - i = d → i ≤ l.length → Ev (fun k => spec_l05Misses.l0 k l (nf (l.take i)) i) (nf l : Int) := by
  intro d
  induction d with
  | zero =>
    intro i hd hi
    obtain rfl : i = l.length := by omega
    refine Ev.step (Ev.const (o := some (nf (l.take l.length) : Int)) (by rw [List.take_length])) (fun k => ?_)
    simp only [spec_l05Misses.l0]
    rw [if_neg (by omega)]
  | succ d ih =>
    intro i hd hi
    have hi' : i < l.length := by omega
    have hrd : rdOf false l (i : Int) = l[i] := by unfold rdOf; simp [List.getD_eq_getElem?_getD, hi']
    have hnt := nf_take l i hi'
    have hle : nf (l.take i) ≤ 60 := Nat.le_trans List.countP_le_length (by simp; omega)
    refine Ev.step (ih (i + 1) (by omega) (by omega)) (fun k => ?_)
    simp only [spec_l05Misses.l0]
    rw [if_pos (by omega), if_pos (by omega), hrd, w64 (x := (i : Int) + 1) (by omega) (by omega), show (i : Int) + 1 = ((i + 1 : Nat) : Int) from by omega, hnt]
    cases hb : l[i] with
    | true => rw [if_pos rfl]; rfl
    | false =>
      rw [if_neg (by decide), if_neg (by decide), w64 (by omega) (by omega)]
      rfl
theorem sbest_ok (us : List Int) (hul : us.length ≤ 60) (n : Nat) (h1 : 1 ≤ n) (hn : n ≤ 7) : ∃ c : Nat, Ev (fun k => spec_l05Misses.f k us n) (c : Int) ∧ Bel false n us [] c := by
  obtain ⟨v2, h2, c, e, hb, hl2, hc⟩ := sbest_l0 us hul n h1 hn us.length 0 [] [] [] (by omega) (by omega) List.nodup_nil (Nat.zero_le _) rfl rfl
  refine ⟨c, ?_, hb⟩
  refine Ev.bind (G := fun k (bt : List Int × List Bool) => spec_l05Misses.l0 k bt.2 0 0) e ?_
  have h3 := smis_l0 h2 (by omega) h2.length 0 (by omega) (by omega)
  rw [hc] at h3
  exact h3
/-- The two optimal replacements miss as often. -/
theorem best_same {n : Nat} {us : List Int} {c c' : Nat} (h : Bel false n us [] c) (h' : Bel false n us [] c') : c = c' :=
  Nat.le_antisymm (opt0 h (h'.sch List.nodup_nil (Nat.zero_le _))) (opt0 h' (h.sch List.nodup_nil (Nat.zero_le _)))
/-! ### Divisors -/
theorem idiv_l0 : ∀ (m : Nat) (a b : Nat), b = m → Ev (fun k => impl_divisor.l0 k a b) (Nat.gcd a b : Int) := by
  intro m
  induction m using Nat.strongRecOn with
  | ind m ih =>
    intro a b hm
    by_cases hz : b = 0
    · subst hz
      refine Ev.step (Ev.const (o := some ((Nat.gcd a 0 : Nat) : Int)) rfl) (fun k => ?_)
      simp only [impl_divisor.l0]
      rw [if_pos (by omega), Nat.gcd_zero_right]
    · have hlt : a % b < m := by rw [← hm]; exact Nat.mod_lt _ (by omega)
      have e := ih (a % b) hlt b (a % b) rfl
      have hg : Nat.gcd b (a % b) = Nat.gcd a b := by rw [Nat.gcd_comm a b, Nat.gcd_rec b a, Nat.gcd_comm]
      rw [hg] at e
      refine Ev.step e (fun k => ?_)
      simp only [impl_divisor.l0]
      rw [if_neg (by omega), Int.ofNat_tmod]
theorem sdiv_l0 : ∀ (m : Nat) (a b : Nat), a = m → Ev (fun k => spec_l01Divisor.l0 k a b) (Nat.gcd a b : Int) := by
  intro m
  induction m using Nat.strongRecOn with
  | ind m ih =>
    intro a b hm
    by_cases hz : a = 0
    · subst hz
      refine Ev.step (Ev.const (o := some ((Nat.gcd 0 b : Nat) : Int)) rfl) (fun k => ?_)
      simp only [spec_l01Divisor.l0]
      rw [if_neg (by omega), Nat.gcd_zero_left]
    · have hlt : b % a < m := by rw [← hm]; exact Nat.mod_lt _ (by omega)
      have e := ih (b % a) hlt (b % a) a rfl
      rw [← Nat.gcd_rec a b] at e
      refine Ev.step e (fun k => ?_)
      simp only [spec_l01Divisor.l0]
      rw [if_pos (by omega), if_neg (by omega), Int.ofNat_tmod]
theorem ratio_same (rows : List (List Int)) (ms us : List Int) (hx : rows.length ≤ 1048576) (hr : ∀ r ∈ rows, r.length ≤ 1048576) (hm : ms.length ≤ 1048576) (hul : us.length ≤ 1048576) :
    ∃ T, Ev (fun k => spec_RatioOf.f k rows ms us) T ∧ Ev (fun k => impl_RatioOf.f k rows ms us) T := by
  obtain ⟨bv, v1, ⟨kv, v2⟩, hv⟩ := valid_eq rows ms hx hr hm
  obtain ⟨bu, u1, ⟨ku, u2⟩, hu⟩ := uses_eq us hul
  cases bv with
  | false =>
    refine ⟨(0, 0, false), ⟨kv, fun k hk => ?_⟩, ⟨1, fun k hk => ?_⟩⟩
    · have := v2 k hk
      dsimp only at this ⊢
      unfold spec_RatioOf.f
      rw [this, Option.bind_some, if_neg (by decide)]
    · obtain ⟨k, rfl⟩ : ∃ j, k = j + 1 := ⟨k - 1, by omega⟩
      dsimp only
      unfold impl_RatioOf.f
      rw [v1, Option.bind_some, if_neg (by decide)]
      simp only [impl_RatioOf.j0]
      rw [if_pos True.intro]
  | true =>
    obtain ⟨h1, h2, G⟩ := hv rfl
    cases bu with
    | false =>
      refine ⟨(0, 0, false), ⟨max kv ku, fun k hk => ?_⟩, ⟨1, fun k hk => ?_⟩⟩
      · have q1 := v2 k (by omega)
        have q2 := u2 k (by omega)
        dsimp only at q1 q2 ⊢
        unfold spec_RatioOf.f
        rw [q1, Option.bind_some, if_pos rfl, q2, Option.bind_some, if_neg (by decide)]
      · obtain ⟨k, rfl⟩ : ∃ j, k = j + 1 := ⟨k - 1, by omega⟩
        dsimp only
        unfold impl_RatioOf.f
        rw [v1, Option.bind_some, if_pos rfl, u1, Option.bind_some, if_neg (by decide)]
        simp only [impl_RatioOf.j0]
        rw [if_pos True.intro]
    | true =>
      obtain ⟨hl, hus⟩ := hu rfl
      by_cases hz : us.length = 0
      · refine ⟨(0, 0, false), ⟨max kv ku, fun k hk => ?_⟩, ⟨1, fun k hk => ?_⟩⟩
        · have q1 := v2 k (by omega)
          have q2 := u2 k (by omega)
          dsimp only at q1 q2 ⊢
          unfold spec_RatioOf.f
          rw [q1, Option.bind_some, if_pos rfl, q2, Option.bind_some, if_pos rfl, if_pos hz]
        · obtain ⟨k, rfl⟩ : ∃ j, k = j + 1 := ⟨k - 1, by omega⟩
          dsimp only
          unfold impl_RatioOf.f
          rw [v1, Option.bind_some, if_pos rfl, u1, Option.bind_some, if_pos rfl]
          simp only [impl_RatioOf.j0]
          rw [show ((us.length : Int) == 0) = true from by rw [hz]; rfl, if_pos rfl]
      · obtain ⟨k1, e1⟩ := misses_f G h1 h2 hl hus
        obtain ⟨k2, e2⟩ := misF_ok G h1 h2 hl hus
        obtain ⟨c, ⟨k3, e3⟩, hb, hcl⟩ := best_ok us hl ms.length h1 (by omega)
        obtain ⟨c', ⟨k4, e4⟩, hb'⟩ := sbest_ok us hl ms.length h1 (by omega)
        obtain rfl := best_same hb' hb
        have hs := sum01 _ (hits_01 rows ms us)
        have hlH : ((List.range us.length).map (hitA rows ms us)).length = us.length := by simp
        obtain ⟨N, hN⟩ : ∃ N : Nat, (us.length : Int) - ((List.range us.length).map (hitA rows ms us)).sum = (N : Int) := ⟨((us.length : Int) - ((List.range us.length).map (hitA rows ms us)).sum).toNat, by omega⟩
        rw [hN] at e1 e2
        have hN60 : N ≤ 60 := by omega
        have hC1 : 1 ≤ c' := by
          obtain ⟨a, w, hw⟩ : ∃ a w, us = a :: w := by
            cases us with
            | nil => exact absurd rfl hz
            | cons a w => exact ⟨a, w, rfl⟩
          rw [hw] at hb
          exact bel_pos hb
        obtain ⟨k5, e5⟩ := idiv_l0 c' N c' rfl
        obtain ⟨k6, e6⟩ := sdiv_l0 N N c' rfl
        have hg : 0 < Nat.gcd N c' := Nat.gcd_pos_of_pos_right N (by omega)
        refine ⟨(wrap64 (Int.tdiv N (Nat.gcd N c' : Int)), wrap64 (Int.tdiv c' (Nat.gcd N c' : Int)), true), ⟨max (max kv ku) (max k2 (max k4 k6)), fun k hk => ?_⟩, ⟨max k1 (max k3 k5) + 1, fun k hk => ?_⟩⟩
        · have q1 := v2 k (by omega)
          have q2 := u2 k (by omega)
          have q3 := e2 k (by omega)
          have q4 := e4 k (by omega)
          have q5 := e6 k (by omega)
          dsimp only at q1 q2 q3 q4 q5 ⊢
          unfold spec_RatioOf.f spec_l01Divisor.f
          rw [q1, Option.bind_some, if_pos rfl, q2, Option.bind_some, if_pos rfl, if_neg hz, q3, Option.bind_some, q4, Option.bind_some, q5, Option.bind_some, if_neg (by omega)]
        · obtain ⟨k, rfl⟩ : ∃ j, k = j + 1 := ⟨k - 1, by omega⟩
          have q3 := e1 k (by omega)
          have q4 := e3 k (by omega)
          have q5 := e5 k (by omega)
          dsimp only at q3 q4 q5 ⊢
          unfold impl_RatioOf.f
          rw [v1, Option.bind_some, if_pos rfl, u1, Option.bind_some, if_pos rfl]
          simp only [impl_RatioOf.j0, impl_Policy_ways.f, impl_length_int64_67.f]
          rw [show ((us.length : Int) == 0) = false from by rw [beq_eq_false_iff_ne]; omega, if_neg (by decide), q3, Option.bind_some, Option.bind_some, Option.bind_some, q4, Option.bind_some]
          unfold impl_ReduceRatio.f impl_isRatio.f impl_inRange.f impl_divisor.f
          rw [if_pos (by omega), Option.bind_some, decide_eq_true (by omega), if_pos rfl, if_pos (by omega), Option.bind_some, decide_eq_true (by omega), Option.bind_some, if_pos rfl, q5, Option.bind_some, if_neg (by omega), Option.bind_some]
/-- What the law's row asks: for all lists. -/
theorem FnExactRatioOf (rows : List (List Int)) (ms us : List Int) (hx : rows.length ≤ 9223372036854775807) (hr : ∀ r ∈ rows, r.length ≤ 9223372036854775807) (hm : ms.length ≤ 9223372036854775807) (hul : us.length ≤ 9223372036854775807) : ∃ k, laws_FnExactRatioOf.f k rows ms us = some true := by
  by_cases hlong : (us.length : Int) > 1048576
  · exact ⟨0, by unfold laws_FnExactRatioOf.f; rw [if_pos hlong]⟩
  obtain ⟨t, ⟨ks, es⟩, hs⟩ := sz_ok rows ms hx hr hm
  by_cases ht : t < 0
  · refine ⟨ks, ?_⟩
    have := es ks (Nat.le_refl _)
    dsimp only at this
    unfold laws_FnExactRatioOf.f
    rw [if_neg hlong, this, Option.bind_some, if_pos ht]
  · obtain ⟨hx', hr', hm'⟩ := hs (by omega)
    obtain ⟨⟨a, b, c⟩, ⟨k1, e1⟩, ⟨k2, e2⟩⟩ := ratio_same rows ms us hx' hr' hm' (by omega)
    obtain ⟨k3, e3⟩ := toP_ok rows ms hx' hr' hm'
    obtain ⟨k4, e4⟩ := toS_ok us (by omega)
    obtain ⟨k5, e5⟩ := eqP_ok rows ms hx' hr' hm'
    obtain ⟨k6, e6⟩ := eqS_ok us (by omega)
    obtain ⟨K, hK⟩ : ∃ K, K = max ks (max k1 (max k2 (max k3 (max k4 (max k5 k6))))) := ⟨_, rfl⟩
    refine ⟨K + 1, ?_⟩
    have qs := es (K + 1) (by omega)
    have q1 := e1 (K + 1) (by omega)
    have q2 := e2 (K + 1) (by omega)
    have q3 := e3 (K + 1) (by omega)
    have q4 := e4 (K + 1) (by omega)
    have p3 := e3 K (by omega)
    have p4 := e4 K (by omega)
    have p5 := e5 K (by omega)
    have p6 := e6 K (by omega)
    dsimp only at qs q1 q2 q3 q4 p3 p4 p5 p6
    unfold laws_FnExactRatioOf.f
    rw [if_neg hlong, qs, Option.bind_some, if_neg ht, q3, Option.bind_some]
    dsimp only
    rw [q4, Option.bind_some, q1, Option.bind_some, Option.bind_some]
    dsimp only
    rw [Option.bind_some, q2, Option.bind_some]
    dsimp only
    rw [if_pos rfl, if_pos rfl]
    simp only [laws_FnExactRatioOf.j0]
    rw [if_neg (by simp), p3, Option.bind_some]
    dsimp only
    rw [p5, Option.bind_some, if_pos rfl, p4, Option.bind_some, p6, Option.bind_some, if_pos rfl]
end Go.Proofs.Ytndiplmpolkneaa.Pure
