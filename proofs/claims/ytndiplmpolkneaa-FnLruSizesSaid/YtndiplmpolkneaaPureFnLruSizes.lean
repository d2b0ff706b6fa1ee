/- The plain law of FnLruSizes: what the printed functions compute answers true for all lists of bytes, whatever their lengths; no condition beyond those that the row itself gives. -/
import Derived.Test.YtndiplmpolkneaaLx8
import Derived.Laws.Bits64b
namespace Go.Proofs.Ytndiplmpolkneaa.Pure
open Go Go.RowKit Go.Proofs.Ytndiplmpolkneaa.L Go.Proofs.YtndiplmpolkneaaW.PrintWords Go.Proofs.YtndiplmpolkneaaW.PrintLast
set_option linter.unusedVariables false
set_option linter.unusedSimpArgs false
/-! ### The source of numbers -/
theorem byteOf {l : List Int} (h : ∀ x ∈ l, (Lit.int .u8 x).wf = true) : ∀ x ∈ l, 0 ≤ x ∧ x < 256 := by
  intro x hx
  have := h x hx
  simp [Lit.wf, IntKind.min, IntKind.max, IntKind.signed, IntKind.bits] at this
  omega
theorem rd_byte {l : List Int} (h : ∀ x ∈ l, 0 ≤ x ∧ x < 256) (i : Int) : 0 ≤ rd l i ∧ rd l i < 256 := by
  unfold rd
  rw [List.getD_eq_getElem?_getD]
  cases hg : l[i.toNat]? with
  | none => simp
  | some v => exact h v (List.mem_of_getElem? hg)
theorem and255 (x : Int) (h0 : 0 ≤ x) (h1 : x < 18446744073709551616) : 0 ≤ Go.bits .and .u64 x 255 ∧ Go.bits .and .u64 x 255 < 256 := by
  have h := bits_and_u64_nat x.toNat 255 (by omega) (by omega)
  rw [show ((x.toNat : Nat) : Int) = x from by omega] at h
  have h2 : (x.toNat &&& 255 : Nat) ≤ 255 := Nat.and_le_right
  rw [show ((255 : Nat) : Int) = 255 from rfl] at h
  rw [h]
  omega
theorem u64w (x : Int) : 0 ≤ IntKind.u64.wrap x ∧ IntKind.u64.wrap x < 18446744073709551616 := by
  rw [IntKind.wrap_u64]
  omega
theorem next_ok (l : List Int) (hl : l.length ≤ 140737488351232) (hb : ∀ x ∈ l, 0 ≤ x ∧ x < 256) (p q : Int) (hp : 0 ≤ p) (hp' : p < 4611686018427387904) :
    ∃ v q', spec_l00Src_next.f l p q = some (v, p + 1, q') ∧ 0 ≤ v ∧ v < 256 := by
  have hw : wrap64 (p + 1) = p + 1 := by unfold wrap64; omega
  have hr := rd_byte hb p
  have hwr : wrap64 (rd l p) = rd l p := by unfold wrap64; omega
  have key : ∀ X : Int, 0 ≤ wrap64 (Go.bits .and .u64 ((IntKind.u64.wrap X) / 1099511627776) 255) ∧ wrap64 (Go.bits .and .u64 ((IntKind.u64.wrap X) / 1099511627776) 255) < 256 := by
    intro X
    have h1 := u64w X
    have h2 := and255 ((IntKind.u64.wrap X) / 1099511627776) (by omega) (by omega)
    generalize Go.bits .and .u64 ((IntKind.u64.wrap X) / 1099511627776) 255 = y at h2 ⊢
    unfold wrap64
    omega
  unfold spec_l00Src_next.f
  rw [hw]
  by_cases h1 : p < (l.length : Int)
  · rw [if_pos h1, if_pos hp, if_pos (by omega), hwr]
    exact ⟨_, _, rfl, hr.1, hr.2⟩
  · rw [if_neg h1]
    by_cases h2 : p + 1 ≤ (l.length : Int)
    · omega
    · rw [if_neg h2]
      exact ⟨_, _, rfl, (key _).1, (key _).2⟩
theorem tmod_ok (v n : Int) (hv : 0 ≤ v) (hn : 0 < n) : 0 ≤ Int.tmod v n ∧ Int.tmod v n < n :=
  ⟨Int.tmod_nonneg n hv, Int.tmod_lt_of_pos v hn⟩
theorem pick_ok (l : List Int) (hl : l.length ≤ 140737488351232) (hb : ∀ x ∈ l, 0 ≤ x ∧ x < 256) (p q n : Int) (hp : 0 ≤ p) (hp' : p < 4611686018427387000) (hn : 1 ≤ n) :
    ∃ v p' q', spec_l00Src_pick.f l p q n = some (v, p', q') ∧ 0 ≤ v ∧ v < n ∧ p ≤ p' ∧ p' ≤ p + 2 := by
  unfold spec_l00Src_pick.f
  by_cases h1 : n ≤ 1
  · rw [if_pos h1]
    exact ⟨0, p, q, rfl, by omega, by omega, by omega, by omega⟩
  · rw [if_neg h1]
    obtain ⟨v, q1, e1, hv0, hv1⟩ := next_ok l hl hb p q hp (by omega)
    rw [e1, Option.bind_some]
    by_cases h2 : n > 200
    · rw [if_pos h2]
      obtain ⟨v2, q2, e2, hw0, hw1⟩ := next_ok l hl hb (p + 1) q1 (by omega) (by omega)
      dsimp only
      rw [e2, Option.bind_some, if_neg (by omega)]
      dsimp only
      obtain ⟨h3, h4⟩ := tmod_ok (wrap64 (wrap64 (v * 256) + v2)) n (by unfold wrap64; omega) (by omega)
      exact ⟨_, _, _, rfl, h3, h4, by omega, by omega⟩
    · rw [if_neg h2, if_neg (by omega)]
      obtain ⟨h3, h4⟩ := tmod_ok v n hv0 (by omega)
      exact ⟨_, _, _, rfl, h3, h4, by dsimp only; omega, by dsimp only; omega⟩
/-! ### Lists -/
theorem w64 {x : Int} (h0 : -9223372036854775808 ≤ x) (h1 : x < 9223372036854775808) : wrap64 x = x := by unfold wrap64; omega
theorem rd_get {l : List Int} {i : Nat} (h : i < l.length) : rd l (i : Int) = l[i] := by
  unfold rd
  simp [List.getD_eq_getElem?_getD, h]
theorem rd_nat (l : List Int) (i : Nat) : rd l (i : Int) = l.getD i 0 := by unfold rd; simp
theorem index_loop (l : List Int) (a : Int) (hl : l.length < 1000000) : ∀ (d i k : Nat), l.length - i = d → i ≤ l.length → d < k → (∀ j, j < i → rd l (j : Int) ≠ a) →
    (∃ j, j < l.length ∧ rd l (j : Int) = a ∧ slices_Index_int64_int64.l0 k l a l.length i = some (j : Int)) ∨ ((∀ j, j < l.length → rd l (j : Int) ≠ a) ∧ slices_Index_int64_int64.l0 k l a l.length i = some (-1)) := by
  intro d
  induction d with
  | zero =>
    intro i k hd hi hk hA
    obtain ⟨k, rfl⟩ : ∃ j, k = j + 1 := ⟨k - 1, by omega⟩
    simp only [slices_Index_int64_int64.l0]
    rw [if_neg (by omega)]
    exact .inr ⟨fun j hj => hA j (by omega), rfl⟩
  | succ d ih =>
    intro i k hd hi hk hA
    obtain ⟨k, rfl⟩ : ∃ j, k = j + 1 := ⟨k - 1, by omega⟩
    simp only [slices_Index_int64_int64.l0]
    rw [if_pos (by omega), if_pos (by omega), if_pos (by omega)]
    by_cases hx : a = rd l (i : Int)
    · rw [if_pos hx]
      exact .inl ⟨i, by omega, hx.symm, rfl⟩
    · rw [if_neg hx, w64 (by omega) (by omega), show (i : Int) + 1 = ((i + 1 : Nat) : Int) from by omega]
      refine ih (i + 1) k (by omega) (by omega) (by omega) (fun j hj => ?_)
      by_cases e : j = i
      · subst e; exact fun h => hx h.symm
      · exact hA j (by omega)
theorem index_ok (l : List Int) (a : Int) (hl : l.length < 1000000) (k : Nat) (hk : l.length < k) :
    (∃ j, j < l.length ∧ rd l (j : Int) = a ∧ slices_Index_int64_int64.f k l a = some (j : Int)) ∨ ((∀ j, j < l.length → rd l (j : Int) ≠ a) ∧ slices_Index_int64_int64.f k l a = some (-1)) :=
  index_loop l a hl l.length 0 k (by omega) (by omega) hk (by simp)
theorem permuted_loop (c ages : List Int) (hc : c.length < 1000000) (ha : ages.length < 1000000) (hr : ∀ i, i < ages.length → 0 ≤ rd ages (i : Int) ∧ rd ages (i : Int) < c.length) : ∀ (d i k : Nat), ages.length - i = d → i ≤ ages.length → d < k →
    impl_permuted.l0 k c ((ages.take i).map (rd c)) ages ages.length i = some (ages.map (rd c)) := by
  intro d
  induction d with
  | zero =>
    intro i k hd hi hk
    obtain ⟨k, rfl⟩ : ∃ j, k = j + 1 := ⟨k - 1, by omega⟩
    simp only [impl_permuted.l0]
    rw [if_neg (by omega), List.take_of_length_le (by omega)]
  | succ d ih =>
    intro i k hd hi hk
    obtain ⟨k, rfl⟩ : ∃ j, k = j + 1 := ⟨k - 1, by omega⟩
    have hi' : i < ages.length := by omega
    have h := hr i hi'
    simp only [impl_permuted.l0]
    rw [if_pos (by omega), if_pos (by omega), if_pos (by omega), if_pos h.1, if_pos h.2, if_pos (by simp; omega), w64 (by omega) (by omega), show (i : Int) + 1 = ((i + 1 : Nat) : Int) from by omega]
    have e : (ages.take i).map (rd c) ++ [rd c (rd ages (i : Int))] = (ages.take (i + 1)).map (rd c) := by
      rw [List.take_succ_eq_append_getElem hi', List.map_append, rd_get hi']; rfl
    rw [e]
    exact ih (i + 1) k (by omega) (by omega) (by omega)
theorem permuted_ok (c ages : List Int) (hc : c.length < 1000000) (ha : ages.length < 1000000) (hr : ∀ x ∈ ages, 0 ≤ x ∧ x < c.length) (k : Nat) (hk : ages.length < k) : impl_permuted.f k c ages = some (ages.map (rd c)) :=
  permuted_loop c ages hc ha (fun i hi => by rw [rd_get hi]; exact hr _ (List.getElem_mem _)) ages.length 0 k (by omega) (by omega) hk
/-! ### The two policies -/
theorem map_rd_range (c : List Int) : ∀ n, n ≤ c.length → (asc (n : Int)).map (rd c) = c.take n := by
  intro n hn
  unfold asc
  rw [Int.toNat_natCast, List.map_map]
  apply List.ext_getElem
  · simp; omega
  · intro i h1 h2
    simp only [List.length_map, List.length_range] at h1
    simp [rd, List.getD_eq_getElem?_getD, show i < c.length by omega]
theorem asc_take (n i : Nat) (h : i ≤ n) : (asc (n : Int)).take i = asc (i : Int) := by
  unfold asc
  simp [List.take_range, Nat.min_eq_left h, ← List.map_take]
theorem map_rd_drop (c : List Int) (n i : Nat) (hn : n = c.length) : ((asc (n : Int)).drop i).map (rd c) = c.drop i := by
  rw [List.map_drop, map_rd_range c n (by omega), hn, List.take_length]
theorem map_mvd (c : List Int) (n i : Nat) (hn : n = c.length) (hi : i < n) : (mvd n i).map (rd c) = rd c i :: c.eraseIdx i := by
  unfold mvd
  rw [List.map_cons, List.map_append, List.map_take, map_rd_range c n (by omega), map_rd_drop c n _ hn, hn, List.take_length, List.eraseIdx_eq_take_drop_succ]
theorem asc_mem {n : Nat} {x : Int} (h : x ∈ asc (n : Int)) : 0 ≤ x ∧ x < n := by
  unfold asc at h
  simp at h
  obtain ⟨a, ha, rfl⟩ := h
  omega
theorem mvd_mem {n i : Nat} {x : Int} (hi : i < n) (h : x ∈ mvd n i) : 0 ≤ x ∧ x < n := by
  unfold mvd at h
  rcases List.mem_cons.1 h with rfl | h
  · omega
  · rcases List.mem_append.1 h with h | h
    · exact asc_mem (List.mem_of_mem_take h)
    · exact asc_mem (List.mem_of_mem_drop h)
theorem mvd_length (n i : Nat) (hi : i < n) : (mvd n i).length = n := by
  unfold mvd
  simp [asc_length]
  omega
theorem asc_sorted (n : Int) : (asc n).Pairwise fun a b => decide (a ≤ b) = true := by
  unfold asc
  rw [List.pairwise_map]
  exact List.pairwise_lt_range.imp (fun {a b} h => by simp; omega)
theorem srt_of_perm {l : List Int} {n : Int} (h : l.Perm (asc n)) : srt l = asc n := by
  refine List.Perm.eq_of_pairwise (le := fun a b => decide (a ≤ b) = true) ?_ ?_ (asc_sorted n) ((List.mergeSort_perm _ _).trans h)
  · intro a b _ _ h1 h2; simp at h1 h2; omega
  · exact List.pairwise_mergeSort (by intro a b c h1 h2; simp at *; omega) (by intro a b; simp; omega) l
theorem isOrd_of_perm {l : List Int} {n : Nat} (h : l.Perm (asc n)) : isOrd n l = true := by
  unfold isOrd
  rw [srt_of_perm h, h.length_eq, asc_length]
  simp
theorem mvd_perm (n i : Nat) (hi : i < n) : (mvd n i).Perm (asc n) := by
  have hl : i < (asc (n : Int)).length := by rw [asc_length]; omega
  have hg : (asc (n : Int))[i] = (i : Int) := by simp [asc]
  have h := List.perm_middle (a := (i : Int)) (l₁ := (asc n).take i) (l₂ := (asc n).drop (i + 1))
  unfold mvd
  refine h.symm.trans ?_
  rw [← hg, List.getElem_cons_drop, List.take_append_drop]
theorem valid_of (n : Nat) (h1 : 1 ≤ n) (h2 : n ≤ 6) (rows : List (List Int)) (ms : List Int) (hl : rows.length = n) (hr : ∀ x ∈ rows, x.Perm (asc n)) (hm : ms.Perm (asc n)) : impl_ValidPolicy.f rows ms = some true := by
  have hml : ms.length = n := by rw [hm.length_eq, asc_length]; omega
  unfold impl_ValidPolicy.f
  rw [hml, if_pos ⟨by omega, List.all_eq_true.2 fun x hx => by have := (hr x hx).length_eq; rw [asc_length] at this; simp; omega⟩]
  congr 1
  rw [isOrd_of_perm hm, show rows.all (isOrd n) = true from List.all_eq_true.2 fun x hx => isOrd_of_perm (hr x hx)]
  simp [inR, hl]
  omega
theorem lru_valid (n : Nat) (h1 : 1 ≤ n) (h2 : n ≤ 6) : impl_ValidPolicy.f ((List.range n).map (mvd n)) (mvd n (n - 1)) = some true :=
  valid_of n h1 h2 _ _ (by simp) (fun x hx => by
    obtain ⟨i, hi, rfl⟩ := List.mem_map.1 hx
    exact mvd_perm n i (List.mem_range.1 hi)) (mvd_perm n _ (by omega))
theorem fifo_valid (n : Nat) (h1 : 1 ≤ n) (h2 : n ≤ 6) : impl_ValidPolicy.f ((List.range n).map (fun _ => asc n)) (mvd n (n - 1)) = some true :=
  valid_of n h1 h2 _ _ (by simp) (fun x hx => by
    obtain ⟨i, hi, rfl⟩ := List.mem_map.1 hx
    exact List.Perm.refl _) (mvd_perm n _ (by omega))
theorem empty_ok (rows : List (List Int)) (ms : List Int) (h : ms.length ≤ 6) : impl_Policy_empty.f rows ms = some (List.replicate ms.length (-1)) := by
  unfold impl_Policy_empty.f slices_Repeat_int64_int64.f
  rw [if_pos ⟨rfl, by omega, by omega⟩]
  simp
theorem uses_ok (us : List Int) (h1 : us.length ≤ 60) (h2 : ∀ x ∈ us, 0 ≤ x ∧ x < 64) : impl_ValidUses.f us = some true := by
  unfold impl_ValidUses.f impl_allIn.f
  rw [if_pos (by omega), Option.bind_some]
  congr 1
  rw [List.all_eq_true]
  intro x hx
  have := h2 x hx
  simp [inR]
  omega
/-- What a miss makes of contents: the address ahead, the last one gone. -/
theorem miss_map (c : List Int) (n : Nat) (a : Int) (hn : n = c.length) (h1 : 1 ≤ n) : (mvd n (n - 1)).map (rd (c.set (n - 1) a)) = a :: c.take (n - 1) := by
  rw [map_mvd _ n (n - 1) (by simp [hn]) (by omega), rd_get (by simp; omega)]
  congr 1
  · simp
  · rw [List.eraseIdx_eq_take_drop_succ, List.drop_of_length_le (by simp; omega), List.append_nil, List.take_set_of_le (by omega)]
theorem step_miss (rows : List (List Int)) (n : Nat) (c : List Int) (a : Int) (hn : n = c.length) (h1 : 1 ≤ n) (h2 : n ≤ 6) (k : Nat) (hk : 10 ≤ k) (hA : ∀ j, j < c.length → rd c (j : Int) ≠ a) :
    ∃ o, impl_Policy_step.f k rows (mvd n (n - 1)) c a = some (a :: c.take (n - 1), o, false) := by
  unfold impl_Policy_step.f
  rcases index_ok c a (by omega) k (by omega) with ⟨j, hj, hja, e⟩ | ⟨_, e⟩
  · exact absurd hja (hA j hj)
  · rw [e, Option.bind_some, if_neg (by omega)]
    unfold slices_Clone_int64_int64.f
    rw [if_pos (by omega), Option.bind_some, w64 (by omega) (by omega), if_pos (by omega), if_pos (by omega), show ((c.length : Int) - 1).toNat = n - 1 from by omega,
      permuted_ok _ _ (by simp; omega) (by rw [mvd_length _ _ (by omega)]; omega) (fun x hx => by have := mvd_mem (by omega) hx; simp; omega) k (by rw [mvd_length _ _ (by omega)]; omega), Option.bind_some, miss_map c n a hn h1]
    exact ⟨_, rfl⟩
theorem step_hit (rows : List (List Int)) (ms : List Int) (n j : Nat) (c : List Int) (a : Int) (hn : n = c.length) (h2 : n ≤ 6) (hrl : rows.length = n) (k : Nat) (hk : 10 ≤ k)
    (hm : ∀ i, i < n → ((rows.getD i []).length ≤ 6 ∧ ∀ x ∈ rows.getD i [], 0 ≤ x ∧ x < n)) (hj : j < c.length) (hja : rd c (j : Int) = a) :
    ∃ i, i < c.length ∧ rd c (i : Int) = a ∧ impl_Policy_step.f k rows ms c a = some ((rows.getD i []).map (rd c), -1, true) := by
  unfold impl_Policy_step.f
  rcases index_ok c a (by omega) k (by omega) with ⟨i, hi, hia, e⟩ | ⟨hA, _⟩
  · refine ⟨i, hi, hia, ?_⟩
    rw [e, Option.bind_some, if_pos (by omega), if_pos (by omega), if_pos (by omega)]
    have er : rd_L1 rows (i : Int) = rows.getD i [] := by unfold rd_L1; simp
    have hmi := hm i (by omega)
    rw [er, permuted_ok _ _ (by omega) (by omega) (fun x hx => by have := hmi.2 x hx; omega) k (by omega), Option.bind_some]
  · exact absurd hja (hA j hj)
/-! ### What the contents hold -/
/-- A list cut to n elements, or filled with -1 up to n. -/
def padn (n : Nat) (l : List Int) : List Int := l.take n ++ List.replicate (n - l.length) (-1)
theorem padn_length (n : Nat) (l : List Int) : (padn n l).length = n := by unfold padn; simp; omega
theorem padn_take (n : Nat) (T : List Int) : (padn n T).take (n - 1) = T.take (n - 1) ++ List.replicate (n - 1 - T.length) (-1) := by
  unfold padn
  rw [List.take_append, List.take_take, List.take_replicate, List.length_take]
  congr 1
  · congr 1; omega
  · congr 1; omega
theorem padn_cons (n : Nat) (h1 : 1 ≤ n) (a : Int) (T : List Int) : padn n (a :: T) = a :: (T.take (n - 1) ++ List.replicate (n - 1 - T.length) (-1)) := by
  unfold padn
  obtain ⟨m, rfl⟩ : ∃ m, n = m + 1 := ⟨n - 1, by omega⟩
  simp
theorem padn_rd {n : Nat} {T : List Int} {a : Int} (ha : 0 ≤ a) {j : Nat} (hj : j < n) (h : rd (padn n T) (j : Int) = a) : j < (T.take n).length ∧ (T.take n)[j]? = some a := by
  rw [rd_get (by rw [padn_length]; exact hj)] at h
  unfold padn at h
  by_cases hl : j < (T.take n).length
  · rw [List.getElem_append_left hl] at h
    exact ⟨hl, by rw [List.getElem?_eq_getElem hl, h]⟩
  · rw [List.getElem_append_right (by omega), List.getElem_replicate] at h
    omega
theorem padn_mem {n : Nat} {T : List Int} {a : Int} (h : a ∈ T.take n) : ∃ j, j < (padn n T).length ∧ rd (padn n T) (j : Int) = a := by
  obtain ⟨j, hj, rfl⟩ := List.mem_iff_getElem.1 h
  refine ⟨j, by unfold padn; simp at hj ⊢; omega, ?_⟩
  rw [rd_get (by unfold padn; simp at hj ⊢; omega)]
  unfold padn
  rw [List.getElem_append_left hj]
/-- The different addresses of uses (the latest first), the latest first. -/
def dis : List Int → List Int
  | [] => []
  | a :: r => a :: (dis r).filter (· != a)
theorem dis_cons (a : Int) (r : List Int) : dis (a :: r) = a :: (dis r).filter (· != a) := rfl
theorem dis_nodup : ∀ r, (dis r).Nodup
  | [] => List.nodup_nil
  | a :: r => by
    unfold dis
    rw [List.nodup_cons]
    exact ⟨by simp, (dis_nodup r).filter _⟩
theorem dis_mem : ∀ (r : List Int) (x : Int), x ∈ dis r → x ∈ r
  | [], _, h => by simp [dis] at h
  | a :: r, x, h => by
    unfold dis at h
    rcases List.mem_cons.1 h with rfl | h
    · exact List.mem_cons_self
    · exact List.mem_cons_of_mem _ (dis_mem r x (List.mem_filter.1 h).1)
theorem erase_nodup : ∀ (T : List Int) (j : Nat) (a : Int), T.Nodup → T[j]? = some a → T.eraseIdx j = T.filter (· != a)
  | [], _, _, _, h => by simp at h
  | b :: T, 0, a, hn, h => by
    obtain rfl : b = a := by simpa using h
    rw [List.nodup_cons] at hn
    rw [List.eraseIdx_cons_zero, List.filter_cons_of_neg (by simp)]
    symm
    rw [List.filter_eq_self]
    intro x hx
    have : x ≠ b := fun e => hn.1 (e ▸ hx)
    simpa using this
  | b :: T, j + 1, a, hn, h => by
    rw [List.nodup_cons] at hn
    have hT : T[j]? = some a := by simpa using h
    have hba : b ≠ a := fun e => hn.1 (e ▸ List.mem_of_getElem? hT)
    rw [List.eraseIdx_cons_succ, List.filter_cons_of_pos (by simpa using hba), erase_nodup T j a hn.2 hT]
theorem take_erase (T : List Int) (n j : Nat) (hj : j < n) : (T.eraseIdx j).take (n - 1) = (T.take n).eraseIdx j := by
  rw [List.eraseIdx_eq_take_drop_succ, List.eraseIdx_eq_take_drop_succ, List.take_take, Nat.min_eq_left (by omega), List.drop_take]
  by_cases h : j < T.length
  · rw [List.take_append, List.take_take, Nat.min_eq_right (by omega), List.length_take, Nat.min_eq_left (by omega), show n - 1 - j = n - (j + 1) from by omega]
  · rw [List.drop_of_length_le (by omega), List.take_nil, List.append_nil, List.take_take, Nat.min_eq_right (by omega)]
/-- A step of the policy that replaces what has not been used for longest. -/
theorem lru_step (n : Nat) (h1 : 1 ≤ n) (h2 : n ≤ 6) (T : List Int) (hn : T.Nodup) (a : Int) (ha : 0 ≤ a) (k : Nat) (hk : 10 ≤ k) :
    ∃ o, impl_Policy_step.f k ((List.range n).map (mvd n)) (mvd n (n - 1)) (padn n T) a = some (padn n (a :: T.filter (· != a)), o, decide (a ∈ T.take n)) := by
  have hl := padn_length n T
  by_cases hm : a ∈ T.take n
  · obtain ⟨j0, hj0, hj1⟩ := padn_mem hm
    obtain ⟨i, hi, hia, e⟩ := step_hit ((List.range n).map (mvd n)) (mvd n (n - 1)) n j0 (padn n T) a hl.symm h2 (by simp) k hk (fun i hi => by
      have : ((List.range n).map (mvd n)).getD i [] = mvd n i := by simp [List.getD_eq_getElem?_getD, hi]
      rw [this]
      exact ⟨by rw [mvd_length n i hi]; omega, fun x hx => mvd_mem hi hx⟩) hj0 hj1
    rw [hl] at hi
    refine ⟨-1, ?_⟩
    rw [e, decide_eq_true hm]
    have er : ((List.range n).map (mvd n)).getD i [] = mvd n i := by simp [List.getD_eq_getElem?_getD, hi]
    obtain ⟨hi1, hi2⟩ := padn_rd ha hi hia
    have hTi : T[i]? = some a := by rw [List.getElem?_take_of_lt hi] at hi2; exact hi2
    have hiT : i < T.length := by simp at hi1; omega
    rw [er, map_mvd _ n i hl.symm hi, hia, padn_cons n h1]
    congr 3
    rw [← erase_nodup T i a hn hTi, take_erase T n i hi]
    unfold padn
    rw [List.eraseIdx_append_of_lt_length hi1, List.length_eraseIdx_of_lt hiT]
    congr 2
    omega
  · obtain ⟨o, e⟩ := step_miss ((List.range n).map (mvd n)) n (padn n T) a hl.symm h1 h2 k hk (fun j hj h => hm (by
      have hq := padn_rd ha (by omega) h
      exact List.mem_of_getElem? hq.2))
    refine ⟨o, ?_⟩
    rw [e, decide_eq_false hm, padn_cons n h1, padn_take]
    congr 3
    by_cases hT : a ∈ T
    · have hlen : n < T.length := by
        by_cases hlt : T.length ≤ n
        · rw [List.take_of_length_le hlt] at hm; exact absurd hT hm
        · omega
      have hf : T.filter (· != a) = T.take n ++ (T.drop n).filter (· != a) := by
        conv => lhs; rw [← List.take_append_drop n T]
        rw [List.filter_append]
        congr 1
        rw [List.filter_eq_self]
        intro x hx
        have : x ≠ a := fun e => hm (e ▸ hx)
        simpa using this
      rw [hf, List.take_append_of_le_length (by simp; omega), List.take_take, Nat.min_eq_left (by omega), List.length_append, List.length_take, Nat.min_eq_left (by omega),
        show n - 1 - T.length = 0 from by omega, show n - 1 - (n + ((T.drop n).filter (· != a)).length) = 0 from by omega]
    · have hf : T.filter (· != a) = T := by
        rw [List.filter_eq_self]
        intro x hx
        have : x ≠ a := fun e => hT (e ▸ hx)
        simpa using this
      rw [hf]
/-- A step of the policy that replaces what came first. -/
theorem fifo_step (n : Nat) (h1 : 1 ≤ n) (h2 : n ≤ 6) (T : List Int) (a : Int) (ha : 0 ≤ a) (k : Nat) (hk : 10 ≤ k) :
    ∃ o, impl_Policy_step.f k ((List.range n).map (fun _ => asc n)) (mvd n (n - 1)) (padn n T) a = some (padn n (if a ∈ T.take n then T else a :: T), o, decide (a ∈ T.take n)) := by
  have hl := padn_length n T
  by_cases hm : a ∈ T.take n
  · obtain ⟨j0, hj0, hj1⟩ := padn_mem hm
    obtain ⟨i, hi, hia, e⟩ := step_hit ((List.range n).map (fun _ => asc n)) (mvd n (n - 1)) n j0 (padn n T) a hl.symm h2 (by simp) k hk (fun i hi => by
      have : ((List.range n).map (fun _ => asc (n : Int))).getD i [] = asc n := by simp [List.getD_eq_getElem?_getD, hi]
      rw [this]
      exact ⟨by rw [asc_length]; omega, fun x hx => asc_mem hx⟩) hj0 hj1
    rw [hl] at hi
    refine ⟨-1, ?_⟩
    have er : ((List.range n).map (fun _ => asc (n : Int))).getD i [] = asc n := by simp [List.getD_eq_getElem?_getD, hi]
    rw [e, er, map_rd_range _ n (by omega), List.take_of_length_le (by omega), if_pos hm, decide_eq_true hm]
  · obtain ⟨o, e⟩ := step_miss ((List.range n).map (fun _ => asc n)) n (padn n T) a hl.symm h1 h2 k hk (fun j hj h => hm (by
      have hq := padn_rd ha (by omega) h
      exact List.mem_of_getElem? hq.2))
    refine ⟨o, ?_⟩
    rw [e, if_neg hm, decide_eq_false hm, padn_cons n h1, padn_take]
/-- The misses of uses (the latest first) under the policy that replaces what came first, the latest first. -/
def mss (n : Nat) : List Int → List Int
  | [] => []
  | a :: r => if a ∈ (mss n r).take n then mss n r else a :: mss n r
theorem mss_cons (n : Nat) (a : Int) (r : List Int) : mss n (a :: r) = if a ∈ (mss n r).take n then mss n r else a :: mss n r := rfl
theorem run_loop (rows : List (List Int)) (ms us : List Int) (hus : us.length ≤ 60) (St : Nat → List Int) (Hit : Nat → Bool)
    (hst : ∀ k i, 10 ≤ k → i < us.length → ∃ o, impl_Policy_step.f k rows ms (St i) (rd us (i : Int)) = some (St (i + 1), o, Hit i)) :
    ∀ (d i k : Nat) (rp : List Int), us.length - i = d → i ≤ us.length → d + 10 < k → rp.length = i →
    ∃ r, impl_Policy_run.l0 k (St i) ((List.range i).map fun j => if Hit j then 1 else 0) rp us us.length i rows ms = some (((List.range us.length).map fun j => if Hit j then 1 else 0), r, St us.length) ∧ r.length = us.length := by
  intro d
  induction d with
  | zero =>
    intro i k rp hd hi hk hrp
    obtain ⟨k, rfl⟩ : ∃ j, k = j + 1 := ⟨k - 1, by omega⟩
    obtain rfl : i = us.length := by omega
    simp only [impl_Policy_run.l0]
    rw [if_neg (by omega)]
    exact ⟨_, rfl, hrp⟩
  | succ d ih =>
    intro i k rp hd hi hk hrp
    obtain ⟨k, rfl⟩ : ∃ j, k = j + 1 := ⟨k - 1, by omega⟩
    have hi' : i < us.length := by omega
    obtain ⟨o, e⟩ := hst k i (by omega) hi'
    simp only [impl_Policy_run.l0]
    rw [if_pos (by omega), if_pos (by omega), if_pos (by omega), e, Option.bind_some]
    dsimp only
    have hr : (List.range (i + 1)).map (fun j => if Hit j = true then (1 : Int) else 0) = (List.range i).map (fun j => if Hit j = true then (1 : Int) else 0) ++ [if Hit i = true then 1 else 0] := by
      rw [List.range_succ, List.map_append]; rfl
    obtain ⟨r, h1, h2⟩ := ih (i + 1) k (rp ++ [o]) (by omega) (by omega) (by omega) (by simp [hrp])
    rw [hr, show ((i + 1 : Nat) : Int) = (i : Int) + 1 from by omega] at h1
    have hl8 : ((List.range i).map (fun j => if Hit j = true then (1 : Int) else 0)).length < 17592186044416 := by simp; omega
    have hl9 : rp.length < 17592186044416 := by omega
    rw [w64 (by omega) (by omega)]
    refine ⟨r, ?_, h2⟩
    cases hh : Hit i with
    | true =>
      rw [hh, if_pos rfl] at h1
      rw [if_pos rfl, if_pos hl8, if_pos hl9]
      exact h1
    | false =>
      rw [hh, if_neg (by simp)] at h1
      rw [if_neg (by simp), if_pos hl8, if_pos hl9]
      exact h1
theorem take_rev (us : List Int) (i : Nat) (h : i < us.length) : (us.take (i + 1)).reverse = rd us (i : Int) :: (us.take i).reverse := by
  rw [List.take_succ_eq_append_getElem h, List.reverse_append, rd_get h]
  rfl
theorem rd_mem {us : List Int} {i : Nat} (h : i < us.length) : rd us (i : Int) ∈ us := by
  rw [rd_get h]
  exact List.getElem_mem _
/-! ### Rounds enough -/
/-- From some number of rounds on F tells v. -/
def Ev {α : Type} (F : Nat → Option α) (v : α) : Prop := ∃ k0, ∀ k, k0 ≤ k → F k = some v
theorem Ev.const {α : Type} {o : Option α} {v : α} (h : o = some v) : Ev (fun _ => o) v := ⟨0, fun _ _ => h⟩
theorem Ev.of {α : Type} {F : Nat → Option α} {v : α} (k0 : Nat) (h : ∀ k, k0 ≤ k → F k = some v) : Ev F v := ⟨k0, h⟩
theorem Ev.bind {α β : Type} {F : Nat → Option α} {G : Nat → α → Option β} {v : α} {u : β} (h : Ev F v) (h2 : Ev (fun k => G k v) u) : Ev (fun k => (F k).bind (G k)) u := by
  obtain ⟨a, ha⟩ := h
  obtain ⟨b, hb⟩ := h2
  exact ⟨max a b, fun k hk => by show (F k).bind (G k) = some u; rw [ha k (by omega), Option.bind_some]; exact hb k (by omega)⟩
/-- A round more. -/
theorem Ev.step {α : Type} {F G : Nat → Option α} {v : α} (h : Ev G v) (e : ∀ k, F (k + 1) = G k) : Ev F v := by
  obtain ⟨a, ha⟩ := h
  refine ⟨a + 1, fun k hk => ?_⟩
  obtain ⟨m, rfl⟩ : ∃ m, k = m + 1 := ⟨k - 1, by omega⟩
  rw [e]
  exact ha m (by omega)
theorem Ev.congr {α : Type} {F G : Nat → Option α} {v : α} (h : Ev G v) (e : ∀ k, F k = G k) : Ev F v := by
  obtain ⟨a, ha⟩ := h
  exact ⟨a, fun k hk => by rw [e]; exact ha k hk⟩
/-! ### Places in the list of different addresses -/
theorem dis_of_mem : ∀ (r : List Int) (x : Int), x ∈ r → x ∈ dis r
  | a :: r, x, h => by
    rw [dis_cons]
    by_cases e : x = a
    · rw [e]; exact List.mem_cons_self
    · rcases List.mem_cons.1 h with h | h
      · exact absurd h e
      · exact List.mem_cons_of_mem _ (List.mem_filter.2 ⟨dis_of_mem r x h, by simpa using e⟩)
theorem dis_append : ∀ (p s : List Int), dis (p ++ s) = dis p ++ (dis s).filter (fun x => !decide (x ∈ p))
  | [], s => by
    simp only [dis, List.nil_append]
    symm
    rw [List.filter_eq_self]
    intro x _
    rfl
  | a :: p, s => by
    rw [List.cons_append, dis_cons, dis_append p s, dis_cons, List.filter_append, List.filter_filter, List.cons_append]
    congr 2
    congr 1
    funext x
    by_cases hx : x = a
    · simp [hx]
    · simp [hx]
/-- At which place a use of an address is found: how many different addresses were used since its last use, or -1. -/
def dst (r : List Int) (a : Int) : Int := if a ∈ r then ((dis (r.takeWhile (· != a))).length : Int) else -1
theorem dst_at (p s : List Int) (a : Int) (ha : a ∉ p) : dst (p ++ a :: s) a = ((dis p).length : Int) := by
  unfold dst
  rw [if_pos (by simp), List.takeWhile_append_of_pos (by
    intro x hx
    have : x ≠ a := fun e => ha (e ▸ hx)
    simpa using this), List.takeWhile_cons_of_neg (by simp), List.append_nil]
theorem dis_le (r : List Int) : (dis r).length ≤ r.length := by
  induction r with
  | nil => simp [dis]
  | cons a r ih =>
    rw [dis_cons]
    have := List.length_filter_le (· != a) (dis r)
    simp
    omega
theorem dst_lt (r : List Int) (a : Int) : -1 ≤ dst r a ∧ dst r a < r.length + 1 := by
  unfold dst
  by_cases h : a ∈ r
  · rw [if_pos h]
    have h1 := dis_le (r.takeWhile (· != a))
    have h2 : (r.takeWhile (· != a)).length ≤ r.length := (List.takeWhile_sublist _).length_le
    omega
  · rw [if_neg h]; omega
theorem mem_take_dst (r : List Int) (a : Int) (n : Nat) : a ∈ (dis r).take n ↔ (0 ≤ dst r a ∧ dst r a < n) := by
  by_cases h : a ∈ r
  · obtain ⟨p, s, rfl, hp⟩ := List.eq_append_cons_of_mem h
    have hd : dis (p ++ a :: s) = dis p ++ a :: ((dis s).filter (· != a)).filter (fun x => !decide (x ∈ p)) := by
      rw [dis_append, dis_cons, List.filter_cons_of_pos (by simpa using hp)]
    rw [dst_at p s a hp, hd]
    constructor
    · intro hm
      by_cases hl : (dis p).length < n
      · omega
      · rw [List.take_append_of_le_length (by omega)] at hm
        exact absurd (dis_mem p a (List.mem_of_mem_take hm)) hp
    · intro hl
      rw [List.take_append, List.mem_append]
      right
      obtain ⟨m, hm⟩ : ∃ m, n - (dis p).length = m + 1 := ⟨n - (dis p).length - 1, by omega⟩
      rw [hm, List.take_succ_cons]
      exact List.mem_cons_self
  · constructor
    · intro hm
      exact absurd (dis_mem r a (List.mem_of_mem_take hm)) h
    · intro hd
      unfold dst at hd
      rw [if_neg h] at hd
      omega
theorem filter_len (T : List Int) (a : Int) (hn : T.Nodup) : (T.filter (· != a)).length + (if a ∈ T then 1 else 0) = T.length := by
  by_cases h : a ∈ T
  · rw [if_pos h]
    obtain ⟨j, hj, e⟩ := List.mem_iff_getElem.1 h
    rw [← erase_nodup T j a hn (by rw [List.getElem?_eq_getElem hj, e]), List.length_eraseIdx_of_lt hj]
    omega
  · rw [if_neg h, List.filter_eq_self.2 (fun x hx => by
      have : x ≠ a := fun e => h (e ▸ hx)
      simpa using this)]
    omega
theorem dis_len_cons (a : Int) (r : List Int) : (dis (a :: r)).length = (dis r).length + (if a ∈ r then 0 else 1) := by
  rw [dis_cons, List.length_cons]
  have h := filter_len (dis r) a (dis_nodup r)
  by_cases hm : a ∈ r
  · rw [if_pos (dis_of_mem r a hm)] at h
    rw [if_pos hm]
    omega
  · rw [if_neg (fun e => hm (dis_mem r a e))] at h
    rw [if_neg hm]
    omega
/-! ### The set of a list -/
theorem compactUpTo_sorted (zs : List Int) (hs : zs.Pairwise fun a b => decide (a ≤ b) = true) : ∀ m, m ≤ zs.length →
    (Lib.compactUpTo zs.toArray m).Nodup ∧ (∀ x, x ∈ Lib.compactUpTo zs.toArray m ↔ x ∈ zs.take m) := by
  intro m
  induction m with
  | zero => intro _; simp [Lib.compactUpTo]
  | succ m ih =>
    intro hm
    obtain ⟨h1, h2⟩ := ih (by omega)
    have hlt : m < zs.length := by omega
    have hg : zs.toArray[m]! = zs[m] := by simp [hlt]
    rw [Lib.compactUpTo_succ, List.take_succ_eq_append_getElem hlt, hg]
    by_cases hk : Lib.keeps zs.toArray m = true
    · rw [if_pos hk]
      have hnew : zs[m] ∉ zs.take m := by
        intro hmem
        obtain ⟨i, hi, e⟩ := List.mem_iff_getElem.1 hmem
        simp at hi
        rw [List.getElem_take] at e
        have hm0 : 0 < m := by omega
        have hle : zs[m - 1] ≤ zs[m] := by
          have := List.pairwise_iff_getElem.1 hs (m - 1) m (by omega) hlt (by omega)
          simpa using this
        have hle2 : zs[i] ≤ zs[m - 1] := by
          by_cases hii : i = m - 1
          · subst hii; omega
          · have := List.pairwise_iff_getElem.1 hs i (m - 1) (by omega) (by omega) (by omega)
            simpa using this
        unfold Lib.keeps at hk
        have hk' := of_decide_eq_true hk
        rcases hk' with hk' | hk'
        · omega
        · rw [hg, show zs.toArray[m - 1]! = zs[m - 1] from by simp [show m - 1 < zs.length by omega]] at hk'
          omega
      refine ⟨?_, fun x => ?_⟩
      · rw [List.nodup_append]
        refine ⟨h1, by simp, ?_⟩
        intro x hx y hy e
        rw [List.mem_singleton] at hy
        exact hnew (by rw [← hy, ← e]; exact (h2 x).1 hx)
      · rw [List.mem_append, List.mem_append, h2 x]
    · rw [if_neg hk, List.append_nil]
      refine ⟨h1, fun x => ?_⟩
      rw [h2 x, List.mem_append, List.mem_singleton]
      constructor
      · exact Or.inl
      · rintro (h | h)
        · exact h
        · unfold Lib.keeps at hk
          have hk' : ¬ (m = 0 ∨ zs.toArray[m]! ≠ zs.toArray[m - 1]!) := fun e => hk (decide_eq_true e)
          have hm0 : 0 < m := by omega
          have he : zs.toArray[m]! = zs.toArray[m - 1]! := by
            by_cases e : zs.toArray[m]! = zs.toArray[m - 1]!
            · exact e
            · exact absurd (Or.inr e) hk'
          rw [hg, show zs.toArray[m - 1]! = zs[m - 1] from by simp [show m - 1 < zs.length by omega]] at he
          rw [h, he]
          exact List.mem_iff_getElem.2 ⟨m - 1, by simp; omega, by rw [List.getElem_take]⟩
theorem srt_sorted (l : List Int) : (srt l).Pairwise fun a b => decide (a ≤ b) = true :=
  List.pairwise_mergeSort (by intro a b c h1 h2; simp at *; omega) (by intro a b; simp; omega) l
theorem set_len (l r : List Int) (h : ∀ x, x ∈ l ↔ x ∈ r) : (Lib.compact (srt l)).length = (dis r).length := by
  obtain ⟨h1, h2⟩ := compactUpTo_sorted (srt l) (srt_sorted l) (srt l).length (Nat.le_refl _)
  rw [List.take_length] at h2
  have hp : (Lib.compactUpTo (srt l).toArray (srt l).length).Perm (dis r) := by
    rw [List.perm_ext_iff_of_nodup h1 (dis_nodup r)]
    intro x
    rw [h2 x, show x ∈ srt l ↔ x ∈ l from (List.mergeSort_perm l _).mem_iff, h x]
    exact ⟨dis_of_mem r x, dis_mem r x⟩
  exact hp.length_eq
/-! ### The uses that the law draws -/
theorem few_l1 (l : List Int) (hl : l.length ≤ 140737488351232) (hb : ∀ x ∈ l, 0 ≤ x ∧ x < 256) (set : List Int) (h1 : 1 ≤ set.length) (h2 : set.length ≤ 64) (hset : ∀ x ∈ set, 0 ≤ x ∧ x < 64) : ∀ (d : Nat) (acc : List Int) (p q : Int), d ≤ 60 → 0 ≤ p → p + 2 * d < 1000 → acc.length + d ≤ 60 → (∀ x ∈ acc, 0 ≤ x ∧ x < 64) →
    ∃ r p' q', Ev (fun k => spec_l02DrawFew.l1 k d set acc l p q) (r, p', q') ∧ r.length = acc.length + d ∧ ∀ x ∈ r, 0 ≤ x ∧ x < 64 := by
  intro d
  induction d with
  | zero =>
    intro acc p q _ _ _ _ ha
    refine ⟨acc, p, q, ?_, by simp, ha⟩
    refine Ev.step (Ev.const rfl) (fun k => ?_)
    simp only [spec_l02DrawFew.l1]
    rw [if_neg (by simp)]
  | succ d ih =>
    intro acc p q hd hp hp2 hal ha
    obtain ⟨v, p', q', e, hv0, hv1, hp0, hp1⟩ := pick_ok l hl hb p q set.length hp (by omega) (by omega)
    have hv : rd set v ∈ set := by
      obtain ⟨j, rfl⟩ : ∃ j : Nat, v = j := ⟨v.toNat, by omega⟩
      rw [rd_get (by omega)]
      exact List.getElem_mem _
    obtain ⟨r, p2, q2, hr, hlen, hall⟩ := ih (acc ++ [rd set v]) p' q' (by omega) (by omega) (by omega) (by simp; omega) (by
      intro x hx
      rcases List.mem_append.1 hx with hx | hx
      · exact ha x hx
      · rw [List.mem_singleton.1 hx]; exact hset _ hv)
    refine ⟨r, p2, q2, Ev.step hr (fun k => ?_), by rw [hlen]; simp; omega, hall⟩
    simp only [spec_l02DrawFew.l1, spec_l00Src_among.f]
    rw [if_pos (by omega), e, Option.bind_some]
    dsimp only
    rw [if_pos hv0, if_pos hv1, Option.bind_some, if_pos (by omega), w64 (by omega) (by omega), show ((d + 1 : Nat) : Int) - 1 = (d : Int) from by omega]
theorem few_l0 (l : List Int) (hl : l.length ≤ 140737488351232) (hb : ∀ x ∈ l, 0 ≤ x ∧ x < 256) (m M : Nat) (hm : m ≤ 20) (hM : M ≤ 10) (hM1 : 1 ≤ M) : ∀ (d i : Nat) (set : List Int) (p q : Int), M - i = d → i ≤ M → 0 ≤ p → p + 2 * d < 100 → set.length = i → (∀ x ∈ set, 0 ≤ x ∧ x < 64) →
    ∃ r p' q', Ev (fun k => spec_l02DrawFew.l0 k m M set i l p q) (r, p', q') ∧ r.length = m ∧ ∀ x ∈ r, 0 ≤ x ∧ x < 64 := by
  intro d
  induction d with
  | zero =>
    intro i set p q hd hi hp hp2 hsl hs
    obtain ⟨r, p2, q2, hr, hlen, hall⟩ := few_l1 l hl hb set (by omega) (by omega) hs m [] p q (by omega) hp (by omega) (by simp; omega) (by simp)
    refine ⟨r, p2, q2, Ev.step hr (fun k => ?_), by simpa using hlen, hall⟩
    simp only [spec_l02DrawFew.l0]
    rw [if_neg (by omega)]
  | succ d ih =>
    intro i set p q hd hi hp hp2 hsl hs
    obtain ⟨v, p', q', e, hv0, hv1, hp0, hp1⟩ := pick_ok l hl hb p q 64 hp (by omega) (by omega)
    obtain ⟨r, p2, q2, hr, hlen, hall⟩ := ih (i + 1) (set ++ [v]) p' q' (by omega) (by omega) (by omega) (by omega) (by simp; omega) (by
      intro x hx
      rcases List.mem_append.1 hx with hx | hx
      · exact hs x hx
      · rw [List.mem_singleton.1 hx]; exact ⟨hv0, hv1⟩)
    refine ⟨r, p2, q2, Ev.step hr (fun k => ?_), hlen, hall⟩
    simp only [spec_l02DrawFew.l0]
    rw [if_pos (by omega), e, Option.bind_some]
    dsimp only
    rw [if_pos (by omega), w64 (by omega) (by omega), show (i : Int) + 1 = ((i + 1 : Nat) : Int) from by omega]
theorem R8Uses_ok (l : List Int) (hl : l.length ≤ 140737488351232) (hb : ∀ x ∈ l, 0 ≤ x ∧ x < 256) :
    ∃ r, Ev (fun k => spec_R8Uses.f k l) r ∧ r.length ≤ 13 ∧ ∀ x ∈ r, 0 ≤ x ∧ x < 64 := by
  obtain ⟨a, p1, q1, e1, ha0, ha1, hp0, hp1⟩ := pick_ok l hl hb 0 0 14 (by omega) (by omega) (by omega)
  obtain ⟨n, p2, q2, e2, hn0, hn1, hp2, hp3⟩ := pick_ok l hl hb p1 q1 5 (by omega) (by omega) (by omega)
  obtain ⟨r, p3, q3, hr, hlen, hall⟩ := few_l0 l hl hb a.toNat (1 + n).toNat (by omega) (by omega) (by omega) (1 + n).toNat 0 [] p2 q2 (by omega) (by omega) (by omega) (by omega) rfl (by simp)
  refine ⟨r, ?_, by omega, hall⟩
  unfold spec_R8Uses.f spec_l00From.f
  refine Ev.congr (G := fun k => (spec_l02DrawFew.f k l p2 q2 a (wrap64 (1 + n))).bind fun bt226 => some bt226.1) ?_ (fun k => by rw [Option.bind_some]; dsimp only; rw [e1, Option.bind_some]; dsimp only; rw [e2, Option.bind_some])
  refine Ev.bind (v := (r, p3, q3)) ?_ (Ev.const rfl)
  unfold spec_l02DrawFew.f
  rw [w64 (by omega) (by omega)]
  rw [show ((a.toNat : Nat) : Int) = a from by omega, show (((1 + n).toNat : Nat) : Int) = 1 + n from by omega] at hr
  exact hr
theorem r8At_ok (l : List Int) (hb : ∀ x ∈ l, 0 ≤ x ∧ x < 256) : ∃ t, laws_r8At.f l 0 14 = some t ∧ 0 ≤ t ∧ t < 14 := by
  have hr := rd_byte hb 0
  unfold laws_r8At.f
  rw [if_neg (by omega)]
  by_cases h : (0 : Int) ≥ (l.length : Int)
  · rw [if_pos h]
    exact ⟨0, rfl, by omega, by omega⟩
  · rw [if_neg h, if_pos (by omega), if_pos (by omega), if_neg (by omega), w64 (by omega) (by omega)]
    have := tmod_ok (rd l 0) 14 hr.1 (by omega)
    exact ⟨_, rfl, this.1, this.2⟩
/-! ### Distances -/
theorem last_loop (l : List Int) (a : Int) (hl : l.length < 1000000) : ∀ (i k : Nat), i ≤ l.length → i < k → (∀ j, i ≤ j → j < l.length → rd l (j : Int) ≠ a) →
    (∃ j, j < l.length ∧ rd l (j : Int) = a ∧ (∀ m, j < m → m < l.length → rd l (m : Int) ≠ a) ∧ impl_lastUse.l0 k l a ((i : Int) - 1) = some (j : Int)) ∨ ((∀ j, j < l.length → rd l (j : Int) ≠ a) ∧ impl_lastUse.l0 k l a ((i : Int) - 1) = some (-1)) := by
  intro i
  induction i with
  | zero =>
    intro k hi hk hA
    obtain ⟨k, rfl⟩ : ∃ j, k = j + 1 := ⟨k - 1, by omega⟩
    right
    refine ⟨fun j hj => hA j (by omega) hj, ?_⟩
    simp only [impl_lastUse.l0]
    rw [if_neg (by omega)]
  | succ i ih =>
    intro k hi hk hA
    obtain ⟨k, rfl⟩ : ∃ j, k = j + 1 := ⟨k - 1, by omega⟩
    simp only [impl_lastUse.l0]
    rw [show ((i + 1 : Nat) : Int) - 1 = (i : Int) from by omega, if_pos (by omega), if_pos (by omega), if_pos (by omega)]
    by_cases hx : rd l (i : Int) = a
    · rw [if_pos hx]
      exact .inl ⟨i, by omega, hx, fun m h1 h2 => hA m (by omega) h2, rfl⟩
    · rw [if_neg hx, w64 (by omega) (by omega)]
      refine ih k (by omega) (by omega) (fun j h1 h2 => ?_)
      by_cases e : j = i
      · subst e; exact hx
      · exact hA j (by omega) h2
theorem last_ok (l : List Int) (a : Int) (hl : l.length < 1000000) (k : Nat) (hk : l.length < k) :
    (∃ j, j < l.length ∧ rd l (j : Int) = a ∧ (∀ m, j < m → m < l.length → rd l (m : Int) ≠ a) ∧ impl_lastUse.f k l a = some (j : Int)) ∨ ((∀ j, j < l.length → rd l (j : Int) ≠ a) ∧ impl_lastUse.f k l a = some (-1)) := by
  have h := last_loop l a hl l.length k (by omega) hk (by omega)
  unfold impl_lastUse.f
  rw [w64 (by omega) (by omega)]
  exact h
/-- The places at which uses are found. -/
def dsAt (us : List Int) (i : Nat) : Int := dst (us.take i).reverse (rd us (i : Int))
def dsOf (us : List Int) : List Int := (List.range us.length).map (dsAt us)
theorem dsOf_length (us : List Int) : (dsOf us).length = us.length := by simp [dsOf]
theorem dist_loop (us : List Int) (hl : us.length ≤ 60) : ∀ (d i k : Nat), us.length - i = d → i ≤ us.length → d + 100 < k →
    impl_distancesOf.l0 k us ((List.range i).map (dsAt us)) us us.length i = some (dsOf us) := by
  intro d
  induction d with
  | zero =>
    intro i k hd hi hk
    obtain ⟨k, rfl⟩ : ∃ j, k = j + 1 := ⟨k - 1, by omega⟩
    obtain rfl : i = us.length := by omega
    simp only [impl_distancesOf.l0]
    rw [if_neg (by omega)]
    rfl
  | succ d ih =>
    intro i k hd hi hk
    obtain ⟨k, rfl⟩ : ∃ j, k = j + 1 := ⟨k - 1, by omega⟩
    have hi' : i < us.length := by omega
    have hrng : (List.range i).map (dsAt us) ++ [dsAt us i] = (List.range (i + 1)).map (dsAt us) := by rw [List.range_succ, List.map_append]; rfl
    have hnext := ih (i + 1) k (by omega) (by omega) (by omega)
    have htl : (us.take i).length = i := by simp; omega
    simp only [impl_distancesOf.l0]
    rw [if_pos (by omega), if_pos (by omega), if_pos (by omega), if_pos (by omega), Int.toNat_natCast]
    rcases last_ok (us.take i) (rd us (i : Int)) (by omega) k (by omega) with ⟨j, hj, hja, hlast, e⟩ | ⟨hA, e⟩
    · rw [htl] at hj hlast
      rw [e, Option.bind_some, if_pos (by omega), w64 (by omega) (by omega), if_pos (by omega), if_pos (by omega), show ((j : Int) + 1).toNat = j + 1 from by omega]
      unfold impl_setOf.f impl_length_int64_67.f
      rw [if_pos (by simp; omega), Option.bind_some, Option.bind_some, if_pos (by simp; omega)]
      have hseg : rd us (i : Int) ∉ (us.take i).drop (j + 1) := by
        intro hm
        obtain ⟨m, hm1, hm2⟩ := List.mem_iff_getElem.1 hm
        have hm1' : j + 1 + m < i := by simp at hm1; omega
        refine hlast (j + 1 + m) (by omega) (by omega) ?_
        rw [rd_get (by omega), ← hm2, List.getElem_drop]
      have hja' : (us.take i)[j] = rd us (i : Int) := by rw [← hja, rd_get (by omega)]
      have hsplit : (us.take i).reverse = ((us.take i).drop (j + 1)).reverse ++ rd us (i : Int) :: ((us.take i).take j).reverse := by
        have h0 : us.take i = (us.take i).take j ++ (us.take i)[j] :: (us.take i).drop (j + 1) := by
          rw [List.getElem_cons_drop, List.take_append_drop]
        rw [hja'] at h0
        conv => lhs; rw [h0]
        simp
      have hval : ((Lib.compact (srt ((us.take i).drop (j + 1)))).length : Int) = dsAt us i := by
        unfold dsAt
        rw [hsplit, dst_at _ _ _ (by simpa using hseg), set_len _ ((us.take i).drop (j + 1)).reverse (fun x => by simp)]
      rw [hval, w64 (by omega) (by omega), hrng, show (i : Int) + 1 = ((i + 1 : Nat) : Int) from by omega]
      exact hnext
    · rw [e, Option.bind_some, if_neg (by omega), if_pos (by simp; omega)]
      have hval : (-1 : Int) = dsAt us i := by
        unfold dsAt dst
        rw [if_neg]
        intro hm
        rw [List.mem_reverse] at hm
        obtain ⟨m, hm1, hm2⟩ := List.mem_iff_getElem.1 hm
        exact hA m (by omega) (by rw [rd_get (by omega), hm2])
      rw [hval, w64 (by omega) (by omega), hrng, show (i : Int) + 1 = ((i + 1 : Nat) : Int) from by omega]
      exact hnext
theorem dist_ok (us : List Int) (hl : us.length ≤ 60) : Ev (fun k => impl_distancesOf.f k us) (dsOf us) :=
  Ev.of 200 fun k hk => dist_loop us hl us.length 0 k (by omega) (by omega) (by omega)
/-! ### The curve -/
def isMiss (s : Nat) (d : Int) : Bool := decide (d < 0) || decide (d ≥ (s : Int))
def mc (ds : List Int) (s : Nat) : Nat := ds.countP (isMiss s)
theorem curve_l1 (ds : List Int) (hd : ds.length ≤ 100) (s M : Nat) (out : List Int) (v : List Int) (ho : out.length ≤ 1000) (h : Ev (fun k => impl_curve.l0 k ds (out ++ [(mc ds s : Int)]) M (wrap64 ((s : Int) + 1))) v) : ∀ (d i : Nat), ds.length - i = d → i ≤ ds.length →
    Ev (fun k => impl_curve.l1 k ds out s ((ds.take i).countP (isMiss s) : Nat) M s ds ds.length i) v := by
  intro d
  induction d with
  | zero =>
    intro i he hi
    refine Ev.step h (fun k => ?_)
    simp only [impl_curve.l1]
    rw [if_neg (by omega), if_pos (by omega), List.take_of_length_le (by omega)]
    rfl
  | succ d ih =>
    intro i he hi
    have hi' : i < ds.length := by omega
    refine Ev.step (ih (i + 1) (by omega) (by omega)) (fun k => ?_)
    have hle : (ds.take i).countP (isMiss s) ≤ i := Nat.le_trans List.countP_le_length (by simp; omega)
    simp only [impl_curve.l1]
    rw [if_pos (by omega), if_pos (by omega), if_pos (by omega), List.take_succ_eq_append_getElem hi', List.countP_append, List.countP_singleton, rd_get hi', w64 (x := (i : Int) + 1) (by omega) (by omega), w64 (x := (((ds.take i).countP (isMiss s) : Nat) : Int) + 1) (by omega) (by omega)]
    unfold isMiss at *
    by_cases h1 : ds[i] < 0
    · rw [if_pos h1, if_pos (by simp [h1])]
      congr 1
    · rw [if_neg h1]
      by_cases h2 : ds[i] ≥ (s : Int)
      · rw [if_pos h2, if_pos (by simp [h2])]
        congr 1
      · rw [if_neg h2, if_neg (by simp [h1, h2]), Nat.add_zero]
        congr 1
theorem curve_l0 (ds : List Int) (hd : ds.length ≤ 100) (M : Nat) (hM : M ≤ 100) : ∀ (e s : Nat), M - s = e → s ≤ M →
    Ev (fun k => impl_curve.l0 k ds ((List.range s).map fun j => (mc ds j : Int)) M s) ((List.range M).map fun j => (mc ds j : Int)) := by
  intro e
  induction e with
  | zero =>
    intro s he hs
    obtain rfl : s = M := by omega
    refine Ev.step (Ev.const rfl) (fun k => ?_)
    simp only [impl_curve.l0]
    rw [if_neg (by omega)]
  | succ e ih =>
    intro s he hs
    have hn := ih (s + 1) (by omega) (by omega)
    rw [List.range_succ, List.map_append] at hn
    have h1 := curve_l1 ds hd s M ((List.range s).map fun j => (mc ds j : Int)) ((List.range M).map fun j => (mc ds j : Int)) (by simp; omega) (by
      rw [w64 (by omega) (by omega), show (s : Int) + 1 = ((s + 1 : Nat) : Int) from by omega]
      exact hn) ds.length 0 (by omega) (by omega)
    refine Ev.step h1 (fun k => ?_)
    simp only [impl_curve.l0]
    rw [if_pos (by omega)]
    rfl
def cv (ds : List Int) (M : Nat) : List Int := (List.range M).map fun j => (mc ds j : Int)
theorem curve_ok (ds : List Int) (hd : ds.length ≤ 100) (m : Nat) (hm : m ≤ 60) : Ev (fun k => impl_curve.f k ds m) (cv ds (m + 1)) := by
  have h := curve_l0 ds hd (m + 1) (by omega) (m + 1) 0 (by omega) (by omega)
  unfold impl_curve.f
  rw [w64 (by omega) (by omega)]
  exact h
theorem cv_length (ds : List Int) (M : Nat) : (cv ds M).length = M := by simp [cv]
theorem cv_rd (ds : List Int) (M s : Nat) (h : s < M) : rd (cv ds M) (s : Int) = (mc ds s : Int) := by
  rw [rd_get (by rw [cv_length]; exact h)]
  simp [cv]
/-! ### How many uses are found at each place -/
theorem sum_set_add (l : List Int) : ∀ (i : Nat), i < l.length → ∀ (x : Int), (l.set i (l.getD i 0 + x)).sum = l.sum + x := by
  induction l with
  | nil => intro i h; simp at h
  | cons a l ih =>
    intro i h x
    cases i with
    | zero => simp; omega
    | succ i =>
      have := ih i (by simpa using h) x
      simp only [List.set_cons_succ, List.sum_cons, List.getD_cons_succ]
      rw [this]
      omega
/-- The counts of the first places. -/
structure Cnt (ds cs : List Int) (i : Nat) : Prop where
  at_ : ∀ j : Nat, cs.getD j 0 = (((ds.take i).countP fun d => decide (d = (j : Int))) : Nat)
  sum_ : cs.sum = (((ds.take i).countP fun d => decide (0 ≤ d)) : Nat)
  len_ : cs.length ≤ 100
theorem Cnt.pad {ds cs : List Int} {i : Nat} (h : Cnt ds cs i) (hl : cs.length < 100) : Cnt ds (cs ++ [0]) i where
  at_ := fun j => by
    rw [← h.at_ j, List.getD_eq_getElem?_getD, List.getD_eq_getElem?_getD]
    by_cases hj : j < cs.length
    · rw [List.getElem?_append_left hj]
    · rw [List.getElem?_append_right (by omega), List.getElem?_eq_none (by omega : cs.length ≤ j)]
      by_cases h0 : j - cs.length = 0
      · rw [h0]; rfl
      · rw [List.getElem?_eq_none (by simp; omega)]
  sum_ := by rw [← h.sum_]; simp
  len_ := by simp; omega
theorem Cnt.add {ds cs : List Int} {i : Nat} (h : Cnt ds cs i) (hi : i < ds.length) (n : Nat) (hn : ds[i] = (n : Int)) (hc : n < cs.length) : Cnt ds (cs.set n (cs.getD n 0 + 1)) (i + 1) where
  at_ := fun j => by
    rw [List.take_succ_eq_append_getElem hi, List.countP_append, List.countP_singleton, hn]
    by_cases hj : j = n
    · subst hj
      rw [List.getD_eq_getElem?_getD, List.getElem?_set_self hc, Option.getD_some, h.at_ j]
      simp
    · rw [List.getD_eq_getElem?_getD, List.getElem?_set_ne (by omega), ← List.getD_eq_getElem?_getD, h.at_ j, if_neg (by simp; omega)]
      simp
  sum_ := by
    rw [List.take_succ_eq_append_getElem hi, List.countP_append, List.countP_singleton, hn, sum_set_add cs n hc, h.sum_]
    simp
  len_ := by simpa using h.len_
theorem Cnt.skip {ds cs : List Int} {i : Nat} (h : Cnt ds cs i) (hi : i < ds.length) (hn : ds[i] < 0) : Cnt ds cs (i + 1) where
  at_ := fun j => by
    rw [List.take_succ_eq_append_getElem hi, List.countP_append, List.countP_singleton, h.at_ j, if_neg (by simp; omega)]
    simp
  sum_ := by
    rw [List.take_succ_eq_append_getElem hi, List.countP_append, List.countP_singleton, h.sum_, if_neg (by simp; omega)]
    simp
  len_ := h.len_
theorem cnt_l1 (ds : List Int) (i : Nat) (hi : i < ds.length) (hd : ds.length ≤ 60) (hb : ds[i] < 90) (hb2 : -1 ≤ ds[i]) (v : List Int × Bool) (h : ∀ cs, Cnt ds cs (i + 1) → ∃ r, Cnt ds r ds.length ∧ Ev (fun k => impl_DistanceCounts.l0 k cs ds ds.length ((i : Int) + 1)) (r, true)) :
    ∀ (e : Nat) (cs : List Int), (ds[i] + 1 - cs.length).toNat = e → Cnt ds cs i → ∃ r, Cnt ds r ds.length ∧ Ev (fun k => impl_DistanceCounts.l1 k cs ds[i] ds ds.length i) (r, true) := by
  intro e
  induction e with
  | zero =>
    intro cs he hc
    by_cases h0 : ds[i] ≥ 0
    · obtain ⟨n, hn⟩ : ∃ n : Nat, ds[i] = (n : Int) := ⟨ds[i].toNat, by omega⟩
      have hlt : n < cs.length := by omega
      obtain ⟨r, h1, h2⟩ := h _ (hc.add hi n hn hlt)
      refine ⟨r, h1, Ev.step h2 (fun k => ?_)⟩
      have hcn : cs.getD n 0 ≤ 60 := by
        rw [hc.at_ n]
        have : (ds.take i).countP (fun d => decide (d = (n : Int))) ≤ (ds.take i).length := List.countP_le_length
        simp at this; omega
      have hc0 : 0 ≤ cs.getD n 0 := by rw [hc.at_ n]; omega
      simp only [impl_DistanceCounts.l1, impl_length_int64_67.f, Option.bind_some]
      rw [hn, if_neg (by omega), if_pos (by omega), if_pos (by omega), if_pos (by omega), rd_nat, Int.toNat_natCast, w64 (x := cs.getD n 0 + 1) (by omega) (by omega), w64 (by omega) (by omega)]
    · obtain ⟨r, h1, h2⟩ := h _ (hc.skip hi (by omega))
      refine ⟨r, h1, Ev.step h2 (fun k => ?_)⟩
      simp only [impl_DistanceCounts.l1, impl_length_int64_67.f, Option.bind_some]
      rw [if_neg (by omega), if_neg h0, w64 (by omega) (by omega)]
  | succ e ih =>
    intro cs he hc
    have hl := hc.len_
    obtain ⟨r, h1, h2⟩ := ih (cs ++ [0]) (by simp; omega) (hc.pad (by omega))
    refine ⟨r, h1, Ev.step h2 (fun k => ?_)⟩
    simp only [impl_DistanceCounts.l1, impl_length_int64_67.f, Option.bind_some]
    rw [if_pos (by omega), if_pos (by omega)]
theorem cnt_l0 (ds : List Int) (hd : ds.length ≤ 60) (hb : ∀ (i : Nat) (h : i < ds.length), -1 ≤ ds[i] ∧ ds[i] < 90) : ∀ (e i : Nat) (cs : List Int), ds.length - i = e → i ≤ ds.length → Cnt ds cs i →
    ∃ r, Cnt ds r ds.length ∧ Ev (fun k => impl_DistanceCounts.l0 k cs ds ds.length i) (r, true) := by
  intro e
  induction e with
  | zero =>
    intro i cs he hi hc
    obtain rfl : i = ds.length := by omega
    refine ⟨cs, hc, Ev.step (Ev.const rfl) (fun k => ?_)⟩
    simp only [impl_DistanceCounts.l0]
    rw [if_neg (by omega)]
  | succ e ih =>
    intro i cs he hi hc
    have hi' : i < ds.length := by omega
    obtain ⟨r, h1, h2⟩ := cnt_l1 ds i hi' hd (hb i hi').2 (hb i hi').1 (cs, true) (fun cs hcs => by
      obtain ⟨r, h1, h2⟩ := ih (i + 1) cs (by omega) (by omega) hcs
      exact ⟨r, h1, by rw [show (i : Int) + 1 = ((i + 1 : Nat) : Int) from by omega]; exact h2⟩) _ cs rfl hc
    refine ⟨r, h1, Ev.step h2 (fun k => ?_)⟩
    simp only [impl_DistanceCounts.l0]
    rw [if_pos (by omega), if_pos (by omega), if_pos (by omega), rd_get hi']
theorem dsAt_bound (us : List Int) (hl : us.length ≤ 60) (i : Nat) (hi : i < us.length) : -1 ≤ dsAt us i ∧ dsAt us i < i + 1 := by
  have h := dst_lt (us.take i).reverse (rd us (i : Int))
  unfold dsAt
  have : (us.take i).reverse.length = i := by simp; omega
  omega
theorem counts_ok (us : List Int) (hl : us.length ≤ 60) (hu : ∀ x ∈ us, 0 ≤ x ∧ x < 64) : ∃ r, Cnt (dsOf us) r (dsOf us).length ∧ Ev (fun k => impl_DistanceCounts.f k us) (r, true) := by
  have hdl := dsOf_length us
  obtain ⟨r, h1, h2⟩ := cnt_l0 (dsOf us) (by omega) (fun i h => by
    have := dsAt_bound us hl i (by omega)
    simp [dsOf]
    omega) _ 0 [] rfl (by omega) ⟨fun j => by simp, by simp, by simp⟩
  refine ⟨r, h1, ?_⟩
  obtain ⟨a, ha⟩ := dist_ok us hl
  obtain ⟨b, hb⟩ := h2
  dsimp only at ha hb
  refine ⟨max a b, fun k hk => ?_⟩
  show impl_DistanceCounts.f k us = _
  unfold impl_DistanceCounts.f
  rw [uses_ok us hl hu, Option.bind_some, if_pos rfl, ha k (by omega), Option.bind_some]
  exact hb k (by omega)
/-! ### Sums -/
theorem sum_take_le (l : List Int) (h0 : ∀ x ∈ l, 0 ≤ x) : ∀ i, 0 ≤ (l.take i).sum ∧ (l.take i).sum ≤ l.sum := by
  induction l with
  | nil => intro i; simp
  | cons a l ih =>
    intro i
    have ha := h0 a List.mem_cons_self
    have hh := fun i => ih (fun x hx => h0 x (List.mem_cons_of_mem _ hx)) i
    cases i with
    | zero => have := hh l.length; rw [List.take_length] at this; simp; omega
    | succ i => have := hh i; simp; omega
theorem sum_loop (l : List Int) (h0 : ∀ x ∈ l, 0 ≤ x) (hs : l.sum < 1000000) (hl : l.length < 1000000) : ∀ (e i : Nat), l.length - i = e → i ≤ l.length → Ev (fun k => laws_r8Sum.l0 k l (l.take i).sum i) l.sum := by
  intro e
  induction e with
  | zero =>
    intro i he hi
    refine Ev.step (Ev.const rfl) (fun k => ?_)
    simp only [laws_r8Sum.l0]
    rw [if_neg (by omega), List.take_of_length_le (by omega)]
  | succ e ih =>
    intro i he hi
    have hi' : i < l.length := by omega
    refine Ev.step (ih (i + 1) (by omega) (by omega)) (fun k => ?_)
    have h1 := sum_take_le l h0 (i + 1)
    have h2 : (l.take (i + 1)).sum = (l.take i).sum + rd l (i : Int) := by
      rw [List.take_succ_eq_append_getElem hi', List.sum_append, rd_get hi']; simp
    simp only [laws_r8Sum.l0]
    rw [if_pos (by omega), if_pos (by omega), ← h2, w64 (by omega) (by omega), w64 (by omega) (by omega)]
    rfl
theorem mem_getD (l : List Int) (h : ∀ j : Nat, 0 ≤ l.getD j 0) : ∀ x ∈ l, 0 ≤ x := by
  intro x hx
  obtain ⟨j, hj, rfl⟩ := List.mem_iff_getElem.1 hx
  have := h j
  rw [List.getD_eq_getElem?_getD, List.getElem?_eq_getElem hj] at this
  exact this
theorem misses_loop (hs : List Int) (hl : hs.length ≤ 60) (hb : ∀ x ∈ hs, x = 0 ∨ x = 1) : ∀ (e i : Nat) (acc : Int), hs.length - i = e → i ≤ hs.length → 0 ≤ acc → acc ≤ i →
    Ev (fun k => impl_Policy_misses.l0 k acc hs hs.length i) (acc + (((hs.drop i).countP fun x => decide (x = 0)) : Nat)) := by
  intro e
  induction e with
  | zero =>
    intro i acc he hi h0 h1
    refine Ev.step (Ev.const rfl) (fun k => ?_)
    simp only [impl_Policy_misses.l0]
    rw [if_neg (by omega), List.drop_of_length_le (by omega)]
    simp
  | succ e ih =>
    intro i acc he hi h0 h1
    have hi' : i < hs.length := by omega
    have hx := hb _ (List.getElem_mem hi')
    have hn := ih (i + 1) (acc + (1 - hs[i])) (by omega) (by omega) (by omega) (by omega)
    have hv : acc + (1 - hs[i]) + (((hs.drop (i + 1)).countP fun x => decide (x = 0)) : Nat) = acc + (((hs.drop i).countP fun x => decide (x = 0)) : Nat) := by
      rw [← List.getElem_cons_drop hi', List.countP_cons]
      rcases hx with hx | hx <;> simp [hx] <;> omega
    rw [hv] at hn
    refine Ev.step hn (fun k => ?_)
    simp only [impl_Policy_misses.l0]
    rw [if_pos (by omega), if_pos (by omega), if_pos (by omega), rd_get hi', w64 (x := 1 - hs[i]) (by omega) (by omega), w64 (x := acc + (1 - hs[i])) (by omega) (by omega), w64 (by omega) (by omega)]
    rfl
theorem misses_ok (n : Nat) (h1 : 1 ≤ n) (h2 : n ≤ 6) (us : List Int) (hl : us.length ≤ 60) (hu : ∀ x ∈ us, 0 ≤ x ∧ x < 64) :
    Ev (fun k => impl_MissesOf.f k ((List.range n).map (mvd n)) (mvd n (n - 1)) us) ((mc (dsOf us) n : Int), true) := by
  have hml : (mvd n (n - 1)).length = n := mvd_length n _ (by omega)
  have hrun : ∀ k, 100 ≤ k → ∃ r, impl_Policy_run.l0 k (padn n (dis (us.take 0).reverse)) [] [] us us.length 0 ((List.range n).map (mvd n)) (mvd n (n - 1)) = some ((List.range us.length).map (fun j => if decide (rd us (j : Int) ∈ (dis (us.take j).reverse).take n) then (1 : Int) else 0), r, padn n (dis us.reverse)) := by
    intro k hk
    obtain ⟨r, e, _⟩ := run_loop ((List.range n).map (mvd n)) (mvd n (n - 1)) us hl (fun i => padn n (dis (us.take i).reverse)) (fun i => decide (rd us (i : Int) ∈ (dis (us.take i).reverse).take n)) (fun k i hk hi => by
      obtain ⟨o, e⟩ := lru_step n h1 h2 (dis (us.take i).reverse) (dis_nodup _) (rd us (i : Int)) (hu _ (rd_mem hi)).1 k hk
      refine ⟨o, ?_⟩
      rw [e, take_rev us i hi, dis_cons]) us.length 0 k [] (by omega) (by omega) (by omega) rfl
    rw [List.take_length] at e
    exact ⟨r, e⟩
  have e0 : List.replicate (mvd n (n - 1)).length (-1 : Int) = padn n (dis (us.take 0).reverse) := by rw [hml]; simp [padn, dis]
  generalize hhs : (List.range us.length).map (fun j => if decide (rd us (j : Int) ∈ (dis (us.take j).reverse).take n) then (1 : Int) else 0) = hs at hrun
  have hsl : hs.length = us.length := by rw [← hhs]; simp
  have hsb : ∀ x ∈ hs, x = 0 ∨ x = 1 := by
    intro x hx
    rw [← hhs] at hx
    obtain ⟨j, _, rfl⟩ := List.mem_map.1 hx
    split
    · exact .inr rfl
    · exact .inl rfl
  have hm := misses_loop hs (by omega) hsb hs.length 0 0 (by omega) (by omega) (by omega) (by omega)
  have hcount : ((hs.drop 0).countP fun x => decide (x = 0)) = mc (dsOf us) n := by
    rw [List.drop_zero, ← hhs]
    unfold mc dsOf
    rw [List.countP_map, List.countP_map]
    apply List.countP_congr
    intro j _
    have hd := mem_take_dst (us.take j).reverse (rd us (j : Int)) n
    have key : (((if decide (rd us (j : Int) ∈ (dis (us.take j).reverse).take n) = true then (1 : Int) else 0) = 0) ↔ ¬ rd us (j : Int) ∈ (dis (us.take j).reverse).take n) := by
      by_cases h : rd us (j : Int) ∈ (dis (us.take j).reverse).take n <;> simp [h]
    show decide _ = true ↔ (decide (dst (us.take j).reverse (rd us (j : Int)) < 0) || decide (dst (us.take j).reverse (rd us (j : Int)) ≥ (n : Int))) = true
    rw [decide_eq_true_iff, Bool.or_eq_true, decide_eq_true_iff, decide_eq_true_iff]
    exact key.trans (by rw [hd]; omega)
  rw [hcount, Int.zero_add] at hm
  obtain ⟨k0, hk0⟩ := hm
  dsimp only at hk0
  refine ⟨max 100 k0, fun k hk => ?_⟩
  obtain ⟨r, e⟩ := hrun k (by omega)
  show impl_MissesOf.f k _ _ us = _
  unfold impl_MissesOf.f impl_Policy_misses.f impl_Policy_run.f
  rw [lru_valid n h1 h2, Option.bind_some, if_pos rfl, uses_ok us hl hu, Option.bind_some, if_pos rfl, empty_ok _ _ (by omega), Option.bind_some, e0, e, Option.bind_some]
  dsimp only
  have h3 := hk0 k (by omega)
  rw [show ((0 : Nat) : Int) = 0 from rfl] at h3
  rw [h3, Option.bind_some]
/-! ### The law -/
theorem mc_zero (ds : List Int) : mc ds 0 = ds.length := by
  unfold mc
  rw [List.countP_eq_length]
  intro d _
  simp [isMiss]
  omega
theorem miss1 (d : Int) (n : Nat) : (if isMiss n d = true then 1 else 0) = (if isMiss (n + 1) d = true then 1 else 0) + (if decide (d = (n : Int)) = true then 1 else 0) := by
  unfold isMiss
  simp only [Bool.or_eq_true, decide_eq_true_iff]
  split <;> split <;> split <;> omega
theorem mc_diff (ds : List Int) (n : Nat) : mc ds n = mc ds (n + 1) + ds.countP fun d => decide (d = (n : Int)) := by
  unfold mc
  induction ds with
  | nil => rfl
  | cons d ds ih =>
    have h := miss1 d n
    simp only [List.countP_cons]
    omega
theorem mc_ge (ds : List Int) (s : Nat) : (ds.countP fun d => decide (d < 0)) ≤ mc ds s :=
  List.countP_mono_left fun d _ h => by simp [isMiss] at *; exact .inl h
theorem mc_big (ds : List Int) (s : Nat) (h : ∀ d ∈ ds, d < (s : Int)) : mc ds s = ds.countP fun d => decide (d < 0) := by
  unfold mc
  apply List.countP_congr
  intro d hd
  have := h d hd
  simp [isMiss]
  omega
theorem dst_neg (r : List Int) (a : Int) : dst r a < 0 ↔ a ∉ r := by
  unfold dst
  by_cases h : a ∈ r
  · rw [if_pos h]; simp [h] <;> omega
  · rw [if_neg h]; simp [h]
theorem neg_count (us : List Int) : ∀ i, i ≤ us.length → (((List.range i).map (dsAt us)).countP fun d => decide (d < 0)) = (dis (us.take i).reverse).length := by
  intro i
  induction i with
  | zero => intro _; rfl
  | succ i ih =>
    intro hi
    rw [List.range_succ, List.map_append, List.countP_append, ih (by omega), take_rev us i (by omega), dis_len_cons]
    congr 1
    show List.countP _ [dsAt us i] = _
    rw [List.countP_singleton]
    have h := dst_neg (us.take i).reverse (rd us (i : Int))
    unfold dsAt
    by_cases hm : rd us (i : Int) ∈ (us.take i).reverse
    · rw [if_pos hm, if_neg (by simpa using fun e => (h.1 e) hm)]
    · rw [if_neg hm, if_pos (by simpa using h.2 hm)]
theorem neg_all (us : List Int) : ((dsOf us).countP fun d => decide (d < 0)) = (dis us.reverse).length := by
  have h := neg_count us us.length (Nat.le_refl _)
  rw [List.take_length] at h
  exact h
theorem dsOf_bound (us : List Int) (hl : us.length ≤ 13) : ∀ d ∈ dsOf us, -1 ≤ d ∧ d < 13 := by
  intro d hd
  obtain ⟨i, hi, rfl⟩ := List.mem_map.1 hd
  have := dsAt_bound us (by omega) i (List.mem_range.1 hi)
  have := List.mem_range.1 hi
  omega
theorem nonneg_count (ds : List Int) : (ds.countP fun d => decide (0 ≤ d)) + (ds.countP fun d => decide (d < 0)) = ds.length := by
  induction ds with
  | nil => rfl
  | cons d ds ih =>
    simp only [List.countP_cons, List.length_cons]
    by_cases h : d < 0
    · rw [if_neg (by simp; omega), if_pos (by simpa using h)]; omega
    · rw [if_pos (by simp; omega), if_neg (by simp; omega)]; omega
theorem least_of (P : Nat → Prop) : ∀ n, P n → ∃ j, j ≤ n ∧ P j ∧ ∀ i, i < j → ¬ P i := by
  intro n
  induction n using Nat.strongRecOn with
  | ind n ih =>
    intro h
    by_cases he : ∃ i, i < n ∧ P i
    · obtain ⟨i, hi, hp⟩ := he
      obtain ⟨j, h1, h2, h3⟩ := ih i hi hp
      exact ⟨j, by omega, h2, h3⟩
    · exact ⟨n, Nat.le_refl _, h, fun i hi hp => he ⟨i, hi, hp⟩⟩
theorem lru_fin (x1 us set : List Int) (hx : ∀ x ∈ x1, 0 ≤ x ∧ x < 256) (hl : us.length ≤ 13) (hu : ∀ x ∈ us, 0 ≤ x ∧ x < 64) (hset : set.length = (dis us.reverse).length) :
    Ev (fun k => laws_FnLruSizes.l1 k x1 us (cv (dsOf us) 21) set 7) true := by
  obtain ⟨t, et, ht0, ht1⟩ := r8At_ok x1 hx
  have hdl := dsOf_length us
  have hbig := fun s (h : 13 ≤ s) => mc_big (dsOf us) s (fun d hd => by have := dsOf_bound us hl d hd; omega)
  have hna := neg_all us
  generalize hds : dsOf us = ds at hdl hbig hna ⊢
  have hsz : Ev (fun k => impl_SizeFor.f k us t) (if idxF (fun x => decide (x ≤ t)) (cv ds 61) < 0 then ((0 : Int), false) else (idxF (fun x => decide (x ≤ t)) (cv ds 61), true)) := by
    have him : impl_isMost.f t = some true := by
      unfold impl_isMost.f impl_inRange.f
      rw [if_pos (by omega), Option.bind_some, decide_eq_true (by omega)]
    have hd := dist_ok us (by omega)
    rw [hds] at hd
    obtain ⟨a, ha⟩ := hd
    obtain ⟨b, hb⟩ := curve_ok ds (by omega) 60 (by omega)
    dsimp only at ha hb
    refine ⟨max a b, fun k hk => ?_⟩
    show impl_SizeFor.f k us t = _
    unfold impl_SizeFor.f
    have hb' := hb k (by omega)
    rw [show ((60 : Nat) : Int) = 60 from rfl] at hb'
    rw [if_pos ⟨uses_ok us (by omega) hu, him⟩, ha k (by omega), Option.bind_some, hb', Option.bind_some]
  have hg : ∀ j, j < 61 → (cv ds 61).getD j 0 = (mc ds j : Int) := fun j hj => by rw [← rd_nat]; exact cv_rd ds 61 j hj
  obtain ⟨k0, hk0⟩ := hsz
  dsimp only at hk0
  refine ⟨k0 + 1, fun k hk => ?_⟩
  obtain ⟨k, rfl⟩ : ∃ j, k = j + 1 := ⟨k - 1, by omega⟩
  simp only [laws_FnLruSizes.l1]
  rw [if_neg (by omega), et, Option.bind_some, hk0 k (by omega), Option.bind_some]
  by_cases hts : t ≥ (set.length : Int)
  · obtain ⟨j, hj, hp, hlst⟩ := least_of (fun j => (mc ds j : Int) ≤ t) 13 (by show (mc ds 13 : Int) ≤ t; rw [hbig 13 (by omega), hna]; omega)
    have hix : idxF (fun x => decide (x ≤ t)) (cv ds 61) = (j : Int) := idxF_hit _ 0 _ j (by rw [cv_length]; omega) (by rw [hg j (by omega)]; exact decide_eq_true hp) (fun i hi => by rw [hg i (by omega)]; exact decide_eq_false (hlst i hi))
    have ej : (if (j : Int) < 0 then ((0 : Int), false) else ((j : Int), true)) = ((j : Int), true) := if_neg (by omega)
    rw [hix, ej, decide_eq_true hts]
    dsimp only
    rw [if_neg (by simp), if_pos rfl, if_pos (by omega), if_pos (by omega), if_pos (by omega), if_pos (by rw [cv_length]; omega), cv_rd ds 21 j (by omega), if_pos hp]
    by_cases hj0 : (j : Int) = 0
    · rw [if_pos hj0]
    · rw [if_neg hj0, w64 (by omega) (by omega), if_pos (by omega), if_pos (by rw [cv_length]; omega), show (j : Int) - 1 = ((j - 1 : Nat) : Int) from by omega, cv_rd ds 21 (j - 1) (by omega)]
      have := hlst (j - 1) (by omega)
      rw [decide_eq_true (by omega)]
  · have hix : idxF (fun x => decide (x ≤ t)) (cv ds 61) = -1 := idxF_miss _ 0 _ (fun i hi => by
      rw [cv_length] at hi
      rw [hg i hi]
      have := mc_ge ds i
      exact decide_eq_false (by omega))
    have ej : (if (-1 : Int) < 0 then ((0 : Int), false) else ((-1 : Int), true)) = ((0 : Int), false) := if_pos (by omega)
    rw [hix, ej, decide_eq_false hts]
    dsimp only
    rw [if_neg (by simp), if_neg (by simp)]
theorem lru_l1 (x1 us set : List Int) (hx : ∀ x ∈ x1, 0 ≤ x ∧ x < 256) (hl : us.length ≤ 13) (hu : ∀ x ∈ us, 0 ≤ x ∧ x < 64) (hset : set.length = (dis us.reverse).length) : ∀ (e n : Nat), 7 - n = e → 1 ≤ n → n ≤ 7 →
    Ev (fun k => laws_FnLruSizes.l1 k x1 us (cv (dsOf us) 21) set n) true := by
  intro e
  induction e with
  | zero =>
    intro n he h1 h2
    obtain rfl : n = 7 := by omega
    exact lru_fin x1 us set hx hl hu hset
  | succ e ih =>
    intro n he h1 h2
    have hn := ih (n + 1) (by omega) (by omega) (by omega)
    have hmis := misses_ok n h1 (by omega) us (by omega) hu
    obtain ⟨a, ha⟩ := hn
    obtain ⟨b, hb⟩ := hmis
    dsimp only at ha hb
    refine ⟨max a b + 1, fun k hk => ?_⟩
    obtain ⟨k, rfl⟩ : ∃ j, k = j + 1 := ⟨k - 1, by omega⟩
    have eL : impl_LruPolicy.f n = some ((List.range n).map (mvd n), mvd n (n - 1), true) := by
      unfold impl_LruPolicy.f
      rw [if_pos (by omega), Int.toNat_natCast]
    simp only [laws_FnLruSizes.l1]
    rw [if_pos (by omega), eL, Option.bind_some]
    dsimp only
    rw [hb k (by omega), Option.bind_some]
    dsimp only
    rw [if_pos rfl, if_pos rfl, if_pos (by omega), if_pos (by rw [cv_length]; omega), cv_rd (dsOf us) 21 n (by omega), if_pos rfl, w64 (by omega) (by omega), show (n : Int) + 1 = ((n + 1 : Nat) : Int) from by omega]
    exact ha k (by omega)
theorem lru_l0 (x1 us set cs : List Int) (hl : us.length ≤ 13) (hc : Cnt (dsOf us) cs (dsOf us).length) (h : Ev (fun k => laws_FnLruSizes.l1 k x1 us (cv (dsOf us) 21) set 1) true) : ∀ (e n : Nat), 21 - n = e → 1 ≤ n → n ≤ 21 →
    Ev (fun k => laws_FnLruSizes.l0 k x1 us (cv (dsOf us) 21) set cs n) true := by
  intro e
  induction e with
  | zero =>
    intro n he h1 h2
    obtain rfl : n = 21 := by omega
    refine Ev.step h (fun k => ?_)
    simp only [laws_FnLruSizes.l0]
    rw [if_neg (by rw [cv_length]; omega)]
  | succ e ih =>
    intro n he h1 h2
    refine Ev.step (ih (n + 1) (by omega) (by omega) (by omega)) (fun k => ?_)
    obtain ⟨m, rfl⟩ : ∃ m, n = m + 1 := ⟨n - 1, by omega⟩
    have hd := mc_diff (dsOf us) m
    have hle : mc (dsOf us) m ≤ (dsOf us).length := List.countP_le_length
    have hdl := dsOf_length us
    have hat := hc.at_ m
    rw [List.take_length] at hat
    simp only [laws_FnLruSizes.l0]
    rw [if_pos (by rw [cv_length]; omega), w64 (x := ((m + 1 : Nat) : Int) - 1) (by omega) (by omega), show ((m + 1 : Nat) : Int) - 1 = (m : Int) from by omega, cv_rd (dsOf us) 21 m (by omega), cv_rd (dsOf us) 21 (m + 1) (by omega), w64 (x := (mc (dsOf us) m : Int) - (mc (dsOf us) (m + 1) : Int)) (by omega) (by omega)]
    by_cases hcl : ((m + 1 : Nat) : Int) ≤ (cs.length : Int)
    · rw [if_pos hcl, if_pos (by omega), if_pos (by omega), if_pos (by rw [cv_length]; omega), if_pos (by omega), rd_nat, hat, if_pos (by omega), w64 (by omega) (by omega)]
      rfl
    · have h0 : cs.getD m 0 = 0 := by rw [List.getD_eq_getElem?_getD, List.getElem?_eq_none (by omega)]; rfl
      rw [h0] at hat
      rw [if_neg hcl, if_pos (by omega), if_pos (by rw [cv_length]; omega), if_pos (by omega), if_pos (by omega), w64 (by omega) (by omega)]
      rfl
theorem lruCurve_ok (us : List Int) (hl : us.length ≤ 60) (hu : ∀ x ∈ us, 0 ≤ x ∧ x < 64) : Ev (fun k => impl_LruCurve.f k us 20) (cv (dsOf us) 21, true) := by
  have hdl := dsOf_length us
  obtain ⟨a, ha⟩ := dist_ok us hl
  obtain ⟨b, hb⟩ := curve_ok (dsOf us) (by omega) 20 (by omega)
  dsimp only at ha hb
  refine ⟨max a b + 1, fun k hk => ?_⟩
  obtain ⟨k, rfl⟩ : ∃ j, k = j + 1 := ⟨k - 1, by omega⟩
  have hb' := hb k (by omega)
  rw [show ((20 : Nat) : Int) = 20 from rfl] at hb'
  have him : impl_isMost.f 20 = some true := by
    unfold impl_isMost.f impl_inRange.f
    rw [if_pos (by omega), Option.bind_some, decide_eq_true (by omega)]
  show impl_LruCurve.f (k + 1) us 20 = _
  unfold impl_LruCurve.f
  rw [uses_ok us hl hu, Option.bind_some, if_pos rfl, him, Option.bind_some]
  simp only [impl_LruCurve.j0]
  rw [if_neg (by decide), ha k (by omega), Option.bind_some, hb', Option.bind_some]
theorem FnLruSizes : laws_FnLruSizes.Pure := by
  intro l0 l1 _ hl0 hb0 _ hl1 hb1
  by_cases hlong : (l0.length : Int) > 48
  · exact ⟨0, by unfold laws_FnLruSizes.f laws_r8Long.f; rw [if_pos hlong, Option.bind_some, if_pos rfl]⟩
  by_cases hlong1 : (l1.length : Int) > 48
  · exact ⟨0, by unfold laws_FnLruSizes.f laws_r8Long.f; rw [if_neg hlong, Option.bind_some, decide_eq_true hlong1, if_pos rfl]⟩
  obtain ⟨us, ⟨k1, e1⟩, hul, hu⟩ := R8Uses_ok l0 (by omega) (byteOf hb0)
  have hdl := dsOf_length us
  obtain ⟨k2, e2⟩ := lruCurve_ok us (by omega) hu
  have hadd : impl_AddressesOf.f us = some (Lib.compact (srt us), true) := by
    unfold impl_AddressesOf.f impl_setOf.f
    rw [uses_ok us (by omega) hu, Option.bind_some, if_pos rfl, if_pos (by omega), Option.bind_some]
  obtain ⟨cs, hc, ⟨k3, e3⟩⟩ := counts_ok us (by omega) hu
  have hsl := set_len us us.reverse (fun x => by simp)
  have hna := neg_all us
  have hnn := nonneg_count (dsOf us)
  generalize Lib.compact (srt us) = set at hsl hadd
  have hsum := hc.sum_
  rw [List.take_length] at hsum
  have hs0 : ∀ x ∈ cs, 0 ≤ x := mem_getD cs (fun j => by rw [hc.at_ j]; omega)
  obtain ⟨k4, e4⟩ := sum_loop cs hs0 (by omega) (by have := hc.len_; omega) cs.length 0 (by omega) (by omega)
  obtain ⟨k5, e5⟩ := lru_l0 l1 us set cs hul hc (lru_l1 l1 us set (byteOf hb1) hul hu hsl 6 1 (by omega) (by omega) (by omega)) 20 1 (by omega) (by omega) (by omega)
  obtain ⟨K, hK⟩ : ∃ K, K = max k1 (max k2 (max k3 (max k4 k5))) := ⟨_, rfl⟩
  refine ⟨K + 1, ?_⟩
  unfold laws_FnLruSizes.f laws_r8Long.f
  have e4' : laws_r8Sum.f (K + 1) cs = some cs.sum := e4 (K + 1) (by omega)
  have c0 : rd (cv (dsOf us) 21) 0 = (us.length : Int) := by
    have h := cv_rd (dsOf us) 21 0 (by omega)
    rw [show ((0 : Nat) : Int) = 0 from rfl] at h
    rw [h, mc_zero, hdl]
  have c20 : rd (cv (dsOf us) 21) 20 = (set.length : Int) := by
    have h := cv_rd (dsOf us) 21 20 (by omega)
    rw [show ((20 : Nat) : Int) = 20 from rfl] at h
    rw [h, mc_big (dsOf us) 20 (fun d hd => by have := dsOf_bound us hul d hd; omega), hna, hsl]
  have e2' : impl_LruCurve.f (K + 1) us 20 = some (cv (dsOf us) 21, true) := e2 (K + 1) (by omega)
  have e3' : impl_DistanceCounts.f (K + 1) us = some (cs, true) := e3 (K + 1) (by omega)
  have e1' : spec_R8Uses.f (K + 1) l0 = some us := e1 (K + 1) (by omega)
  rw [if_neg hlong, Option.bind_some, decide_eq_false hlong1, if_neg (by decide), e1', Option.bind_some, e2', Option.bind_some, hadd, Option.bind_some, e3', Option.bind_some]
  dsimp only
  rw [if_pos rfl, if_pos rfl, if_pos rfl, if_pos (by rw [cv_length]; rfl), if_pos (by rw [cv_length]; decide), if_pos c0, if_pos (by rw [cv_length]; decide), if_pos c20, e4', Option.bind_some]
  simp only [laws_FnLruSizes.j0]
  rw [w64 (by omega) (by omega), if_neg (by simp; omega)]
  exact e5 K (by omega)
end Go.Proofs.Ytndiplmpolkneaa.Pure
