/-  -/
import Derived.Test.YtndiplmpolkneaaSx10
import Derived.Laws.Bits64b
namespace Go.Proofs.Ytndiplmpolkneaa.Pure
open Go Go.RowKit Go.Proofs.Ytndiplmpolkneaa.S Go.Proofs.YtndiplmpolkneaaW.PrintWords Go.Proofs.YtndiplmpolkneaaW.PrintLast
set_option linter.unusedVariables false
set_option linter.unusedSimpArgs false
/-! ### The source of numbers -/
theorem byteOf {l : List Int} (h : ∀ x ∈ l, (Lit.int .u8 x).wf = true) : ∀ x ∈ l, 0 ≤ x ∧ x < 256 := by
  intro x hx
  have := h x hx
  simp [Lit.wf, IntKind.min, IntKind.max, IntKind.signed, IntKind.bits] at this
  omega
theorem rd_byte {l : List Int} (h : ∀ x ∈ l, 0 ≤ x ∧ x < 256) (i : Int) : 0 ≤ rd l i ∧ rd l i < 256 := by
  unfold rd
  rw [List.getD_eq_getElem?_getD]
  cases hg : l[i.toNat]? with
  | none => simp
  | some v => exact h v (List.mem_of_getElem? hg)
theorem and255 (x : Int) (h0 : 0 ≤ x) (h1 : x < 18446744073709551616) : 0 ≤ Go.bits .and .u64 x 255 ∧ Go.bits .and .u64 x 255 < 256 := by
  have h := bits_and_u64_nat x.toNat 255 (by omega) (by omega)
  rw [show ((x.toNat : Nat) : Int) = x from by omega] at h
  have h2 : (x.toNat &&& 255 : Nat) ≤ 255 := Nat.and_le_right
  rw [show ((255 : Nat) : Int) = 255 from rfl] at h
  rw [h]
  omega
theorem u64w (x : Int) : 0 ≤ IntKind.u64.wrap x ∧ IntKind.u64.wrap x < 18446744073709551616 := by
  rw [IntKind.wrap_u64]
  omega
theorem next_ok (l : List Int) (hl : l.length ≤ 140737488351232) (hb : ∀ x ∈ l, 0 ≤ x ∧ x < 256) (p q : Int) (hp : 0 ≤ p) (hp' : p < 4611686018427387904) :
    ∃ v q', spec_l00Src_next.f l p q = some (v, p + 1, q') ∧ 0 ≤ v ∧ v < 256 := by
  have hw : wrap64 (p + 1) = p + 1 := by unfold wrap64; omega
  have hr := rd_byte hb p
  have hwr : wrap64 (rd l p) = rd l p := by unfold wrap64; omega
  have key : ∀ X : Int, 0 ≤ wrap64 (Go.bits .and .u64 ((IntKind.u64.wrap X) / 1099511627776) 255) ∧ wrap64 (Go.bits .and .u64 ((IntKind.u64.wrap X) / 1099511627776) 255) < 256 := by
    intro X
    have h1 := u64w X
    have h2 := and255 ((IntKind.u64.wrap X) / 1099511627776) (by omega) (by omega)
    generalize Go.bits .and .u64 ((IntKind.u64.wrap X) / 1099511627776) 255 = y at h2 ⊢
    unfold wrap64
    omega
  unfold spec_l00Src_next.f
  rw [hw]
  by_cases h1 : p < (l.length : Int)
  · rw [if_pos h1, if_pos hp, if_pos (by omega), hwr]
    exact ⟨_, _, rfl, hr.1, hr.2⟩
  · rw [if_neg h1]
    by_cases h2 : p + 1 ≤ (l.length : Int)
    · omega
    · rw [if_neg h2]
      exact ⟨_, _, rfl, (key _).1, (key _).2⟩
theorem tmod_ok (v n : Int) (hv : 0 ≤ v) (hn : 0 < n) : 0 ≤ Int.tmod v n ∧ Int.tmod v n < n :=
  ⟨Int.tmod_nonneg n hv, Int.tmod_lt_of_pos v hn⟩
theorem pick_ok (l : List Int) (hl : l.length ≤ 140737488351232) (hb : ∀ x ∈ l, 0 ≤ x ∧ x < 256) (p q n : Int) (hp : 0 ≤ p) (hp' : p < 4611686018427387000) (hn : 1 ≤ n) :
    ∃ v p' q', spec_l00Src_pick.f l p q n = some (v, p', q') ∧ 0 ≤ v ∧ v < n ∧ p ≤ p' ∧ p' ≤ p + 2 := by
  unfold spec_l00Src_pick.f
  by_cases h1 : n ≤ 1
  · rw [if_pos h1]
    exact ⟨0, p, q, rfl, by omega, by omega, by omega, by omega⟩
  · rw [if_neg h1]
    obtain ⟨v, q1, e1, hv0, hv1⟩ := next_ok l hl hb p q hp (by omega)
    rw [e1, Option.bind_some]
    by_cases h2 : n > 200
    · rw [if_pos h2]
      obtain ⟨v2, q2, e2, hw0, hw1⟩ := next_ok l hl hb (p + 1) q1 (by omega) (by omega)
      dsimp only
      rw [e2, Option.bind_some, if_neg (by omega)]
      dsimp only
      obtain ⟨h3, h4⟩ := tmod_ok (wrap64 (wrap64 (v * 256) + v2)) n (by unfold wrap64; omega) (by omega)
      exact ⟨_, _, _, rfl, h3, h4, by omega, by omega⟩
    · rw [if_neg h2, if_neg (by omega)]
      obtain ⟨h3, h4⟩ := tmod_ok v n hv0 (by omega)
      exact ⟨_, _, _, rfl, h3, h4, by dsimp only; omega, by dsimp only; omega⟩
/-! ### Lists -/
theorem w64 {x : Int} (h0 : -9223372036854775808 ≤ x) (h1 : x < 9223372036854775808) : wrap64 x = x := by unfold wrap64; omega
theorem rd_get {l : List Int} {i : Nat} (h : i < l.length) : rd l (i : Int) = l[i] := by
  unfold rd
  simp [List.getD_eq_getElem?_getD, h]
theorem rd_nat (l : List Int) (i : Nat) : rd l (i : Int) = l.getD i 0 := by unfold rd; simp
theorem B10Uses_loop (l : List Int) (hl : l.length ≤ 140737488351232) (hb : ∀ x ∈ l, 0 ≤ x ∧ x < 256) (m : Int) (hm : 1 ≤ m) (hm' : m ≤ 64) : ∀ (d : Nat) (acc : List Int) (p q : Int) (k : Nat), d ≤ 30 → 0 ≤ p → p + 2 * d < 1000 → acc.length + d ≤ 60 → (∀ x ∈ acc, 0 ≤ x ∧ x < m) → d < k →
    ∃ r, spec_B10Uses.l0 k acc m d l p q = some r ∧ r.length = acc.length + d ∧ ∀ x ∈ r, 0 ≤ x ∧ x < m := by
  intro d
  induction d with
  | zero =>
    intro acc p q k _ _ _ _ ha hk
    obtain ⟨k, rfl⟩ : ∃ j, k = j + 1 := ⟨k - 1, by omega⟩
    refine ⟨acc, ?_, by simp, ha⟩
    simp only [spec_B10Uses.l0]
    rw [if_neg (by simp)]
  | succ d ih =>
    intro acc p q k h1 h2 h3 h4 ha hk
    obtain ⟨k, rfl⟩ : ∃ j, k = j + 1 := ⟨k - 1, by omega⟩
    obtain ⟨v, p', q', e, hv0, hv1, hp0, hp1⟩ := pick_ok l hl hb p q m h2 (by omega) hm
    simp only [spec_B10Uses.l0]
    rw [if_pos (by omega), e, Option.bind_some]
    dsimp only
    rw [if_pos (by omega), w64 (by omega) (by omega), show ((d + 1 : Nat) : Int) - 1 = (d : Int) from by omega]
    obtain ⟨r, hr, hlen, hall⟩ := ih (acc ++ [v]) p' q' k (by omega) (by omega) (by omega) (by simp; omega) (by
      intro x hx
      rcases List.mem_append.1 hx with hx | hx
      · exact ha x hx
      · obtain rfl := List.mem_singleton.1 hx; exact ⟨hv0, hv1⟩) (by omega)
    exact ⟨r, hr, by rw [hlen]; simp; omega, hall⟩
theorem B10Uses_ok (l : List Int) (hl : l.length ≤ 140737488351232) (hb : ∀ x ∈ l, 0 ≤ x ∧ x < 256) (k : Nat) (hk : 40 ≤ k) :
    ∃ r, spec_B10Uses.f k l = some r ∧ r.length ≤ 30 ∧ ∀ x ∈ r, 0 ≤ x ∧ x < 64 := by
  unfold spec_B10Uses.f spec_l00From.f
  rw [Option.bind_some]
  obtain ⟨a, p1, q1, e1, ha0, ha1, hp0, hp1⟩ := pick_ok l hl hb 0 0 7 (by omega) (by omega) (by omega)
  dsimp only
  rw [e1, Option.bind_some]
  obtain ⟨n, p2, q2, e2, hn0, hn1, hp2, hp3⟩ := pick_ok l hl hb p1 q1 30 (by omega) (by omega) (by omega)
  dsimp only
  rw [e2, Option.bind_some]
  dsimp only
  rw [w64 (by omega) (by omega)]
  obtain ⟨r, hr, hlen, hall⟩ := B10Uses_loop l hl hb (2 + a) (by omega) (by omega) n.toNat [] p2 q2 k (by omega) (by omega) (by omega) (by simp; omega) (by simp) (by omega)
  rw [show ((n.toNat : Nat) : Int) = n from by omega] at hr
  refine ⟨r, hr, by rw [hlen]; simp; omega, fun x hx => ?_⟩
  have := hall x hx
  omega
theorem index_loop (l : List Int) (a : Int) (hl : l.length < 1000000) : ∀ (d i k : Nat), l.length - i = d → i ≤ l.length → d < k → (∀ j, j < i → rd l (j : Int) ≠ a) →
    (∃ j, j < l.length ∧ rd l (j : Int) = a ∧ slices_Index_int64_int64.l0 k l a l.length i = some (j : Int)) ∨ ((∀ j, j < l.length → rd l (j : Int) ≠ a) ∧ slices_Index_int64_int64.l0 k l a l.length i = some (-1)) := by
  intro d
  induction d with
  | zero =>
    intro i k hd hi hk hA
    obtain ⟨k, rfl⟩ : ∃ j, k = j + 1 := ⟨k - 1, by omega⟩
    simp only [slices_Index_int64_int64.l0]
    rw [if_neg (by omega)]
    exact .inr ⟨fun j hj => hA j (by omega), rfl⟩
  | succ d ih =>
    intro i k hd hi hk hA
    obtain ⟨k, rfl⟩ : ∃ j, k = j + 1 := ⟨k - 1, by omega⟩
    simp only [slices_Index_int64_int64.l0]
    rw [if_pos (by omega), if_pos (by omega), if_pos (by omega)]
    by_cases hx : a = rd l (i : Int)
    · rw [if_pos hx]
      exact .inl ⟨i, by omega, hx.symm, rfl⟩
    · rw [if_neg hx, w64 (by omega) (by omega), show (i : Int) + 1 = ((i + 1 : Nat) : Int) from by omega]
      refine ih (i + 1) k (by omega) (by omega) (by omega) (fun j hj => ?_)
      by_cases e : j = i
      · subst e; exact fun h => hx h.symm
      · exact hA j (by omega)
theorem index_ok (l : List Int) (a : Int) (hl : l.length < 1000000) (k : Nat) (hk : l.length < k) :
    (∃ j, j < l.length ∧ rd l (j : Int) = a ∧ slices_Index_int64_int64.f k l a = some (j : Int)) ∨ ((∀ j, j < l.length → rd l (j : Int) ≠ a) ∧ slices_Index_int64_int64.f k l a = some (-1)) :=
  index_loop l a hl l.length 0 k (by omega) (by omega) hk (by simp)
theorem permuted_loop (c ages : List Int) (hc : c.length < 1000000) (ha : ages.length < 1000000) (hr : ∀ i, i < ages.length → 0 ≤ rd ages (i : Int) ∧ rd ages (i : Int) < c.length) : ∀ (d i k : Nat), ages.length - i = d → i ≤ ages.length → d < k →
    impl_permuted.l0 k c ((ages.take i).map (rd c)) ages ages.length i = some (ages.map (rd c)) := by
  intro d
  induction d with
  | zero =>
    intro i k hd hi hk
    obtain ⟨k, rfl⟩ : ∃ j, k = j + 1 := ⟨k - 1, by omega⟩
    simp only [impl_permuted.l0]
    rw [if_neg (by omega), List.take_of_length_le (by omega)]
  | succ d ih =>
    intro i k hd hi hk
    obtain ⟨k, rfl⟩ : ∃ j, k = j + 1 := ⟨k - 1, by omega⟩
    have hi' : i < ages.length := by omega
    have h := hr i hi'
    simp only [impl_permuted.l0]
    rw [if_pos (by omega), if_pos (by omega), if_pos (by omega), if_pos h.1, if_pos h.2, if_pos (by simp; omega), w64 (by omega) (by omega), show (i : Int) + 1 = ((i + 1 : Nat) : Int) from by omega]
    have e : (ages.take i).map (rd c) ++ [rd c (rd ages (i : Int))] = (ages.take (i + 1)).map (rd c) := by
      rw [List.take_succ_eq_append_getElem hi', List.map_append, rd_get hi']; rfl
    rw [e]
    exact ih (i + 1) k (by omega) (by omega) (by omega)
theorem permuted_ok (c ages : List Int) (hc : c.length < 1000000) (ha : ages.length < 1000000) (hr : ∀ x ∈ ages, 0 ≤ x ∧ x < c.length) (k : Nat) (hk : ages.length < k) : impl_permuted.f k c ages = some (ages.map (rd c)) :=
  permuted_loop c ages hc ha (fun i hi => by rw [rd_get hi]; exact hr _ (List.getElem_mem _)) ages.length 0 k (by omega) (by omega) hk
theorem has_loop (l : List Int) (a : Int) (hl : l.length < 1000000) : ∀ (d i k : Nat), l.length - i = d → i ≤ l.length → d < k → a ∉ l.take i → laws_b10Has.l0 k l a i = some (decide (a ∈ l)) := by
  intro d
  induction d with
  | zero =>
    intro i k hd hi hk hA
    obtain ⟨k, rfl⟩ : ∃ j, k = j + 1 := ⟨k - 1, by omega⟩
    simp only [laws_b10Has.l0]
    rw [List.take_of_length_le (by omega)] at hA
    rw [if_neg (by omega), decide_eq_false hA]
  | succ d ih =>
    intro i k hd hi hk hA
    obtain ⟨k, rfl⟩ : ∃ j, k = j + 1 := ⟨k - 1, by omega⟩
    have hi' : i < l.length := by omega
    simp only [laws_b10Has.l0]
    rw [if_pos (by omega), if_pos (by omega), rd_get hi']
    by_cases hx : l[i] = a
    · rw [if_pos hx, decide_eq_true (by rw [← hx]; exact List.getElem_mem _)]
    · rw [if_neg hx, w64 (by omega) (by omega), show (i : Int) + 1 = ((i + 1 : Nat) : Int) from by omega]
      refine ih (i + 1) k (by omega) (by omega) (by omega) ?_
      rw [List.take_succ_eq_append_getElem hi', List.mem_append, List.mem_singleton]
      rintro (h | h)
      · exact hA h
      · exact hx h.symm
theorem has_ok (l : List Int) (a : Int) (hl : l.length < 1000000) (k : Nat) (hk : l.length < k) : laws_b10Has.f k l a = some (decide (a ∈ l)) :=
  has_loop l a hl l.length 0 k (by omega) (by omega) hk (by simp)
theorem nums_loop (l : List Int) (hl : l.length < 1000000) : ∀ (d i k : Nat), l.length - i = d → i ≤ l.length → d < k → laws_b10Nums.l0 k l l i = some true := by
  intro d
  induction d with
  | zero =>
    intro i k hd hi hk
    obtain ⟨k, rfl⟩ : ∃ j, k = j + 1 := ⟨k - 1, by omega⟩
    simp only [laws_b10Nums.l0]
    rw [if_neg (by omega)]
  | succ d ih =>
    intro i k hd hi hk
    obtain ⟨k, rfl⟩ : ∃ j, k = j + 1 := ⟨k - 1, by omega⟩
    simp only [laws_b10Nums.l0]
    rw [if_pos (by omega), if_pos (by omega), if_pos (by omega), if_pos True.intro, w64 (by omega) (by omega), show (i : Int) + 1 = ((i + 1 : Nat) : Int) from by omega]
    exact ih (i + 1) k (by omega) (by omega) (by omega)
theorem nums_ok (l : List Int) (hl : l.length < 1000000) (k : Nat) (hk : l.length < k) : laws_b10Nums.f k l l = some true := by
  unfold laws_b10Nums.f
  rw [if_pos rfl]
  exact nums_loop l hl l.length 0 k (by omega) (by omega) hk
/-! ### The two policies -/
theorem map_rd_range (c : List Int) : ∀ n, n ≤ c.length → (asc (n : Int)).map (rd c) = c.take n := by
  intro n hn
  unfold asc
  rw [Int.toNat_natCast, List.map_map]
  apply List.ext_getElem
  · simp; omega
  · intro i h1 h2
    simp only [List.length_map, List.length_range] at h1
    simp [rd, List.getD_eq_getElem?_getD, show i < c.length by omega]
theorem asc_take (n i : Nat) (h : i ≤ n) : (asc (n : Int)).take i = asc (i : Int) := by
  unfold asc
  simp [List.take_range, Nat.min_eq_left h, ← List.map_take]
theorem map_rd_drop (c : List Int) (n i : Nat) (hn : n = c.length) : ((asc (n : Int)).drop i).map (rd c) = c.drop i := by
  rw [List.map_drop, map_rd_range c n (by omega), hn, List.take_length]
theorem asc_mem {n : Nat} {x : Int} (h : x ∈ asc (n : Int)) : 0 ≤ x ∧ x < n := by
  unfold asc at h
  simp at h
  obtain ⟨a, ha, rfl⟩ := h
  omega
theorem asc_sorted (n : Int) : (asc n).Pairwise fun a b => decide (a ≤ b) = true := by
  unfold asc
  rw [List.pairwise_map]
  exact List.pairwise_lt_range.imp (fun {a b} h => by simp; omega)
theorem srt_of_perm {l : List Int} {n : Int} (h : l.Perm (asc n)) : srt l = asc n := by
  refine List.Perm.eq_of_pairwise (le := fun a b => decide (a ≤ b) = true) ?_ ?_ (asc_sorted n) ((List.mergeSort_perm _ _).trans h)
  · intro a b _ _ h1 h2; simp at h1 h2; omega
  · exact List.pairwise_mergeSort (by intro a b c h1 h2; simp at *; omega) (by intro a b; simp; omega) l
theorem isOrd_of_perm {l : List Int} {n : Nat} (h : l.Perm (asc n)) : isOrd n l = true := by
  unfold isOrd
  rw [srt_of_perm h, h.length_eq, asc_length]
  simp
theorem valid_of (n : Nat) (h1 : 1 ≤ n) (h2 : n ≤ 6) (rows : List (List Int)) (ms : List Int) (hl : rows.length = n) (hr : ∀ x ∈ rows, x.Perm (asc n)) (hm : ms.Perm (asc n)) : impl_ValidPolicy.f rows ms = some true := by
  have hml : ms.length = n := by rw [hm.length_eq, asc_length]; omega
  unfold impl_ValidPolicy.f
  rw [hml, if_pos ⟨by omega, List.all_eq_true.2 fun x hx => by have := (hr x hx).length_eq; rw [asc_length] at this; simp; omega⟩]
  congr 1
  rw [isOrd_of_perm hm, show rows.all (isOrd n) = true from List.all_eq_true.2 fun x hx => isOrd_of_perm (hr x hx)]
  simp [inR, hl]
  omega
theorem empty_ok (rows : List (List Int)) (ms : List Int) (h : ms.length ≤ 6) : impl_Policy_empty.f rows ms = some (List.replicate ms.length (-1)) := by
  unfold impl_Policy_empty.f slices_Repeat_int64_int64.f
  rw [if_pos ⟨rfl, by omega, by omega⟩]
  simp
theorem uses_ok (us : List Int) (h1 : us.length ≤ 60) (h2 : ∀ x ∈ us, 0 ≤ x ∧ x < 64) : impl_ValidUses.f us = some true := by
  unfold impl_ValidUses.f impl_allIn.f
  rw [if_pos (by omega), Option.bind_some]
  congr 1
  rw [List.all_eq_true]
  intro x hx
  have := h2 x hx
  simp [inR]
  omega
theorem step_hit (rows : List (List Int)) (ms : List Int) (n j : Nat) (c : List Int) (a : Int) (hn : n = c.length) (h2 : n ≤ 6) (hrl : rows.length = n) (k : Nat) (hk : 10 ≤ k)
    (hm : ∀ i, i < n → ((rows.getD i []).length ≤ 6 ∧ ∀ x ∈ rows.getD i [], 0 ≤ x ∧ x < n)) (hj : j < c.length) (hja : rd c (j : Int) = a) :
    ∃ i, i < c.length ∧ rd c (i : Int) = a ∧ impl_Policy_step.f k rows ms c a = some ((rows.getD i []).map (rd c), -1, true) := by
  unfold impl_Policy_step.f
  rcases index_ok c a (by omega) k (by omega) with ⟨i, hi, hia, e⟩ | ⟨hA, _⟩
  · refine ⟨i, hi, hia, ?_⟩
    rw [e, Option.bind_some, if_pos (by omega), if_pos (by omega), if_pos (by omega)]
    have er : rd_L2 rows (i : Int) = rows.getD i [] := by unfold rd_L2; simp
    have hmi := hm i (by omega)
    rw [er, permuted_ok _ _ (by omega) (by omega) (fun x hx => by have := hmi.2 x hx; omega) k (by omega), Option.bind_some]
  · exact absurd hja (hA j hj)
/-- The different addresses of uses (the latest first), the latest first. -/
def dis : List Int → List Int
  | [] => []
  | a :: r => a :: (dis r).filter (· != a)
theorem dis_cons (a : Int) (r : List Int) : dis (a :: r) = a :: (dis r).filter (· != a) := rfl
theorem dis_nodup : ∀ r, (dis r).Nodup
  | [] => List.nodup_nil
  | a :: r => by
    unfold dis
    rw [List.nodup_cons]
    exact ⟨by simp, (dis_nodup r).filter _⟩
theorem dis_mem : ∀ (r : List Int) (x : Int), x ∈ dis r → x ∈ r
  | [], _, h => by simp [dis] at h
  | a :: r, x, h => by
    unfold dis at h
    rcases List.mem_cons.1 h with rfl | h
    · exact List.mem_cons_self
    · exact List.mem_cons_of_mem _ (dis_mem r x (List.mem_filter.1 h).1)
theorem erase_nodup : ∀ (T : List Int) (j : Nat) (a : Int), T.Nodup → T[j]? = some a → T.eraseIdx j = T.filter (· != a)
  | [], _, _, _, h => by simp at h
  | b :: T, 0, a, hn, h => by
    obtain rfl : b = a := by simpa using h
    rw [List.nodup_cons] at hn
    rw [List.eraseIdx_cons_zero, List.filter_cons_of_neg (by simp)]
    symm
    rw [List.filter_eq_self]
    intro x hx
    have : x ≠ b := fun e => hn.1 (e ▸ hx)
    simpa using this
  | b :: T, j + 1, a, hn, h => by
    rw [List.nodup_cons] at hn
    have hT : T[j]? = some a := by simpa using h
    have hba : b ≠ a := fun e => hn.1 (e ▸ List.mem_of_getElem? hT)
    rw [List.eraseIdx_cons_succ, List.filter_cons_of_pos (by simpa using hba), erase_nodup T j a hn.2 hT]
/-! ### Places in the list of different addresses -/
theorem dis_of_mem : ∀ (r : List Int) (x : Int), x ∈ r → x ∈ dis r
  | a :: r, x, h => by
    rw [dis_cons]
    by_cases e : x = a
    · rw [e]; exact List.mem_cons_self
    · rcases List.mem_cons.1 h with h | h
      · exact absurd h e
      · exact List.mem_cons_of_mem _ (List.mem_filter.2 ⟨dis_of_mem r x h, by simpa using e⟩)
theorem dis_append : ∀ (p s : List Int), dis (p ++ s) = dis p ++ (dis s).filter (fun x => !decide (x ∈ p))
  | [], s => by
    simp only [dis, List.nil_append]
    symm
    rw [List.filter_eq_self]
    intro x _
    rfl
  | a :: p, s => by
    rw [List.cons_append, dis_cons, dis_append p s, dis_cons, List.filter_append, List.filter_filter, List.cons_append]
    congr 2
    congr 1
    funext x
    by_cases hx : x = a
    · simp [hx]
    · simp [hx]
/-- At which place a use of an address is found: how many different addresses were used since its last use, or -1. -/
def dst (r : List Int) (a : Int) : Int := if a ∈ r then ((dis (r.takeWhile (· != a))).length : Int) else -1
theorem dst_at (p s : List Int) (a : Int) (ha : a ∉ p) : dst (p ++ a :: s) a = ((dis p).length : Int) := by
  unfold dst
  rw [if_pos (by simp), List.takeWhile_append_of_pos (by
    intro x hx
    have : x ≠ a := fun e => ha (e ▸ hx)
    simpa using this), List.takeWhile_cons_of_neg (by simp), List.append_nil]
theorem dis_le (r : List Int) : (dis r).length ≤ r.length := by
  induction r with
  | nil => simp [dis]
  | cons a r ih =>
    rw [dis_cons]
    have := List.length_filter_le (· != a) (dis r)
    simp
    omega
theorem dst_lt (r : List Int) (a : Int) : -1 ≤ dst r a ∧ dst r a < r.length + 1 := by
  unfold dst
  by_cases h : a ∈ r
  · rw [if_pos h]
    have h1 := dis_le (r.takeWhile (· != a))
    have h2 : (r.takeWhile (· != a)).length ≤ r.length := (List.takeWhile_sublist _).length_le
    omega
  · rw [if_neg h]; omega
theorem mem_take_dst (r : List Int) (a : Int) (n : Nat) : a ∈ (dis r).take n ↔ (0 ≤ dst r a ∧ dst r a < n) := by
  by_cases h : a ∈ r
  · obtain ⟨p, s, rfl, hp⟩ := List.eq_append_cons_of_mem h
    have hd : dis (p ++ a :: s) = dis p ++ a :: ((dis s).filter (· != a)).filter (fun x => !decide (x ∈ p)) := by
      rw [dis_append, dis_cons, List.filter_cons_of_pos (by simpa using hp)]
    rw [dst_at p s a hp, hd]
    constructor
    · intro hm
      by_cases hl : (dis p).length < n
      · omega
      · rw [List.take_append_of_le_length (by omega)] at hm
        exact absurd (dis_mem p a (List.mem_of_mem_take hm)) hp
    · intro hl
      rw [List.take_append, List.mem_append]
      right
      obtain ⟨m, hm⟩ : ∃ m, n - (dis p).length = m + 1 := ⟨n - (dis p).length - 1, by omega⟩
      rw [hm, List.take_succ_cons]
      exact List.mem_cons_self
  · constructor
    · intro hm
      exact absurd (dis_mem r a (List.mem_of_mem_take hm)) h
    · intro hd
      unfold dst at hd
      rw [if_neg h] at hd
      omega
theorem filter_len (T : List Int) (a : Int) (hn : T.Nodup) : (T.filter (· != a)).length + (if a ∈ T then 1 else 0) = T.length := by
  by_cases h : a ∈ T
  · rw [if_pos h]
    obtain ⟨j, hj, e⟩ := List.mem_iff_getElem.1 h
    rw [← erase_nodup T j a hn (by rw [List.getElem?_eq_getElem hj, e]), List.length_eraseIdx_of_lt hj]
    omega
  · rw [if_neg h, List.filter_eq_self.2 (fun x hx => by
      have : x ≠ a := fun e => h (e ▸ hx)
      simpa using this)]
    omega
theorem dis_len_cons (a : Int) (r : List Int) : (dis (a :: r)).length = (dis r).length + (if a ∈ r then 0 else 1) := by
  rw [dis_cons, List.length_cons]
  have h := filter_len (dis r) a (dis_nodup r)
  by_cases hm : a ∈ r
  · rw [if_pos (dis_of_mem r a hm)] at h
    rw [if_pos hm]
    omega
  · rw [if_neg (fun e => hm (dis_mem r a e))] at h
    rw [if_neg hm]
    omega
/-! ### The set of a list -/
theorem compactUpTo_sorted (zs : List Int) (hs : zs.Pairwise fun a b => decide (a ≤ b) = true) : ∀ m, m ≤ zs.length →
    (Lib.compactUpTo zs.toArray m).Nodup ∧ (∀ x, x ∈ Lib.compactUpTo zs.toArray m ↔ x ∈ zs.take m) := by
  intro m
  induction m with
  | zero => intro _; simp [Lib.compactUpTo]
  | succ m ih =>
    intro hm
    obtain ⟨h1, h2⟩ := ih (by omega)
    have hlt : m < zs.length := by omega
    have hg : zs.toArray[m]! = zs[m] := by simp [hlt]
    rw [Lib.compactUpTo_succ, List.take_succ_eq_append_getElem hlt, hg]
    by_cases hk : Lib.keeps zs.toArray m = true
    · rw [if_pos hk]
      have hnew : zs[m] ∉ zs.take m := by
        intro hmem
        obtain ⟨i, hi, e⟩ := List.mem_iff_getElem.1 hmem
        simp at hi
        rw [List.getElem_take] at e
        have hm0 : 0 < m := by omega
        have hle : zs[m - 1] ≤ zs[m] := by
          have := List.pairwise_iff_getElem.1 hs (m - 1) m (by omega) hlt (by omega)
          simpa using this
        have hle2 : zs[i] ≤ zs[m - 1] := by
          by_cases hii : i = m - 1
          · subst hii; omega
          · have := List.pairwise_iff_getElem.1 hs i (m - 1) (by omega) (by omega) (by omega)
            simpa using this
        unfold Lib.keeps at hk
        have hk' := of_decide_eq_true hk
        rcases hk' with hk' | hk'
        · omega
        · rw [hg, show zs.toArray[m - 1]! = zs[m - 1] from by simp [show m - 1 < zs.length by omega]] at hk'
          omega
      refine ⟨?_, fun x => ?_⟩
      · rw [List.nodup_append]
        refine ⟨h1, by simp, ?_⟩
        intro x hx y hy e
        rw [List.mem_singleton] at hy
        exact hnew (by rw [← hy, ← e]; exact (h2 x).1 hx)
      · rw [List.mem_append, List.mem_append, h2 x]
    · rw [if_neg hk, List.append_nil]
      refine ⟨h1, fun x => ?_⟩
      rw [h2 x, List.mem_append, List.mem_singleton]
      constructor
      · exact Or.inl
      · rintro (h | h)
        · exact h
        · unfold Lib.keeps at hk
          have hk' : ¬ (m = 0 ∨ zs.toArray[m]! ≠ zs.toArray[m - 1]!) := fun e => hk (decide_eq_true e)
          have hm0 : 0 < m := by omega
          have he : zs.toArray[m]! = zs.toArray[m - 1]! := by
            by_cases e : zs.toArray[m]! = zs.toArray[m - 1]!
            · exact e
            · exact absurd (Or.inr e) hk'
          rw [hg, show zs.toArray[m - 1]! = zs[m - 1] from by simp [show m - 1 < zs.length by omega]] at he
          rw [h, he]
          exact List.mem_iff_getElem.2 ⟨m - 1, by simp; omega, by rw [List.getElem_take]⟩
theorem srt_sorted (l : List Int) : (srt l).Pairwise fun a b => decide (a ≤ b) = true :=
  List.pairwise_mergeSort (by intro a b c h1 h2; simp at *; omega) (by intro a b; simp; omega) l
theorem set_len (l r : List Int) (h : ∀ x, x ∈ l ↔ x ∈ r) : (Lib.compact (srt l)).length = (dis r).length := by
  obtain ⟨h1, h2⟩ := compactUpTo_sorted (srt l) (srt_sorted l) (srt l).length (Nat.le_refl _)
  rw [List.take_length] at h2
  have hp : (Lib.compactUpTo (srt l).toArray (srt l).length).Perm (dis r) := by
    rw [List.perm_ext_iff_of_nodup h1 (dis_nodup r)]
    intro x
    rw [h2 x, show x ∈ srt l ↔ x ∈ l from (List.mergeSort_perm l _).mem_iff, h x]
    exact ⟨dis_of_mem r x, dis_mem r x⟩
  exact hp.length_eq
/-! ### Rounds enough -/
/-- From some number of rounds on F tells v. -/
def Ev {α : Type} (F : Nat → Option α) (v : α) : Prop := ∃ k0, ∀ k, k0 ≤ k → F k = some v
theorem Ev.const {α : Type} {o : Option α} {v : α} (h : o = some v) : Ev (fun _ => o) v := ⟨0, fun _ _ => h⟩
theorem Ev.of {α : Type} {F : Nat → Option α} {v : α} (k0 : Nat) (h : ∀ k, k0 ≤ k → F k = some v) : Ev F v := ⟨k0, h⟩
theorem Ev.bind {α β : Type} {F : Nat → Option α} {G : Nat → α → Option β} {v : α} {u : β} (h : Ev F v) (h2 : Ev (fun k => G k v) u) : Ev (fun k => (F k).bind (G k)) u := by
  obtain ⟨a, ha⟩ := h
  obtain ⟨b, hb⟩ := h2
  exact ⟨max a b, fun k hk => by show (F k).bind (G k) = some u; rw [ha k (by omega), Option.bind_some]; exact hb k (by omega)⟩
/-- A round more. -/
theorem Ev.step {α : Type} {F G : Nat → Option α} {v : α} (h : Ev G v) (e : ∀ k, F (k + 1) = G k) : Ev F v := by
  obtain ⟨a, ha⟩ := h
  refine ⟨a + 1, fun k hk => ?_⟩
  obtain ⟨m, rfl⟩ : ∃ m, k = m + 1 := ⟨k - 1, by omega⟩
  rw [e]
  exact ha m (by omega)
theorem Ev.congr {α : Type} {F G : Nat → Option α} {v : α} (h : Ev G v) (e : ∀ k, F k = G k) : Ev F v := by
  obtain ⟨a, ha⟩ := h
  exact ⟨a, fun k hk => by rw [e]; exact ha k hk⟩
/-! ### The drawn policies -/
theorem Ev.mono {α : Type} {F : Nat → Option α} {v : α} (hm : ∀ k, LeO (F k) (F (k + 1))) (k0 : Nat) (h : F k0 = some v) : Ev F v := by
  refine ⟨k0, fun k hk => ?_⟩
  obtain ⟨d, rfl⟩ : ∃ d, k = k0 + d := ⟨k - k0, by omega⟩
  clear hk
  induction d with
  | zero => exact h
  | succ d ih => exact hm _ _ ih
/-- A policy with n ways: each list is the ages in some order. -/
structure Good (n : Nat) (rows : List (List Int)) (ms : List Int) : Prop where
  len : rows.length = n
  row : ∀ x ∈ rows, x.Perm (asc n)
  miss : ms.Perm (asc n)
def goodB (n : Nat) (rows : List (List Int)) (ms : List Int) : Bool := decide (rows.length = n) && rows.all (fun x => x.isPerm (asc n)) && ms.isPerm (asc n)
theorem good_of {n : Nat} {rows : List (List Int)} {ms : List Int} (h : goodB n rows ms = true) : Good n rows ms := by
  unfold goodB at h
  simp only [Bool.and_eq_true, decide_eq_true_iff, List.all_eq_true] at h
  exact ⟨h.1.1, fun x hx => List.isPerm_iff.1 (h.1.2 x hx), List.isPerm_iff.1 h.2⟩
def goodO (n : Nat) : Option (List (List Int) × List Int) → Bool
  | some (r, m) => goodB n r m
  | none => false
theorem named {n : Nat} {F : Nat → Option (List (List Int) × List Int)} (hm : ∀ k, LeO (F k) (F (k + 1))) (h : goodO n (F 100) = true) : ∃ r m, Ev F (r, m) ∧ Good n r m := by
  cases hF : F 100 with
  | none => rw [hF] at h; exact absurd h (by simp [goodO])
  | some v =>
    obtain ⟨r, m⟩ := v
    rw [hF] at h
    exact ⟨r, m, Ev.mono hm 100 hF, good_of h⟩
theorem lru_good (n : Nat) (h1 : 1 ≤ n) (h2 : n ≤ 6) : ∃ r m, Ev (fun k => spec_l03Lru.f k n) (r, m) ∧ Good n r m := by
  refine named (fun k => spec_l03Lru.mono _ k) ?_
  have : n = 1 ∨ n = 2 ∨ n = 3 ∨ n = 4 ∨ n = 5 ∨ n = 6 := by omega
  rcases this with rfl | rfl | rfl | rfl | rfl | rfl <;> decide +kernel
theorem fifo_good (n : Nat) (h1 : 1 ≤ n) (h2 : n ≤ 6) : ∃ r m, Ev (fun k => spec_l03Fifo.f k n) (r, m) ∧ Good n r m := by
  refine named (fun k => spec_l03Fifo.mono _ k) ?_
  have : n = 1 ∨ n = 2 ∨ n = 3 ∨ n = 4 ∨ n = 5 ∨ n = 6 := by omega
  rcases this with rfl | rfl | rfl | rfl | rfl | rfl <;> decide +kernel
theorem mru_good (n : Nat) (h1 : 1 ≤ n) (h2 : n ≤ 6) : ∃ r m, Ev (fun k => spec_l03Mru.f k n) (r, m) ∧ Good n r m := by
  refine named (fun k => spec_l03Mru.mono _ k) ?_
  have : n = 1 ∨ n = 2 ∨ n = 3 ∨ n = 4 ∨ n = 5 ∨ n = 6 := by omega
  rcases this with rfl | rfl | rfl | rfl | rfl | rfl <;> decide +kernel
theorem tree_good (n : Nat) (h : n = 2 ∨ n = 4) : ∃ r m, Ev (fun k => spec_l03Tree.f k n) (r, m) ∧ Good n r m := by
  refine named (fun k => spec_l03Tree.mono _ k) ?_
  rcases h with rfl | rfl <;> decide +kernel
def permO (n : Nat) : Option (List Int) → Bool
  | some r => r.isPerm (asc n)
  | none => false
theorem same_good (n : Nat) (h1 : 1 ≤ n) (h2 : n ≤ 6) : ∃ r, Ev (fun k => spec_l03Same.f k n) r ∧ r.Perm (asc n) := by
  have key : permO n (spec_l03Same.f 100 n) = true := by
    have : n = 1 ∨ n = 2 ∨ n = 3 ∨ n = 4 ∨ n = 5 ∨ n = 6 := by omega
    rcases this with rfl | rfl | rfl | rfl | rfl | rfl <;> decide +kernel
  cases hF : spec_l03Same.f 100 n with
  | none => rw [hF] at key; exact absurd key (by simp [permO])
  | some r =>
    rw [hF] at key
    exact ⟨r, Ev.mono (fun k => spec_l03Same.mono _ k) 100 hF, List.isPerm_iff.1 key⟩
theorem asc_succ (i : Nat) : asc (i : Int) ++ [(i : Int)] = asc ((i + 1 : Nat) : Int) := by
  unfold asc
  simp [List.range_succ]
theorem asc_zero : asc 0 = [] := rfl
theorem next_seed (a : Int) (h0 : 0 ≤ a) (h1 : a < 2147483647) : ∃ t, spec_l01Next.f a = some t ∧ 0 ≤ t ∧ t < 2147483647 := by
  unfold spec_l01Next.f
  rw [w64 (by omega) (by omega)]
  have := tmod_ok (48271 * a) 2147483647 (by omega) (by omega)
  exact ⟨_, rfl, this.1, this.2⟩
theorem swap_perm (l : List Int) (i j : Nat) (hi : i < l.length) (hj : j < l.length) : ((l.set i (rd l (j : Int))).set j (rd l (i : Int))).Perm l := by
  rw [rd_get hi, rd_get hj]
  exact List.set_set_perm hi hj
theorem order_l1 (n : Nat) (hn : n ≤ 6) : ∀ (d : Nat) (seed : Int) (l : List Int), d < n → 0 ≤ seed → seed < 2147483647 → l.length = n → ∃ r s, Ev (fun k => spec_l01Order.l1 k seed l d) (r, s) ∧ r.Perm l ∧ 0 ≤ s ∧ s < 2147483647 := by
  intro d
  induction d with
  | zero =>
    intro seed l _ h0 h1 hl
    refine ⟨l, seed, Ev.step (Ev.const (o := some (l, seed)) rfl) (fun k => ?_), List.Perm.refl _, h0, h1⟩
    simp only [spec_l01Order.l1]
    rw [if_neg (by omega)]
  | succ d ih =>
    intro seed l hd h0 h1 hl
    obtain ⟨t, et, ht0, ht1⟩ := next_seed seed h0 h1
    have hm := tmod_ok t ((d + 1 : Nat) + 1) ht0 (by omega)
    obtain ⟨j, hj⟩ : ∃ j : Nat, (j : Int) = Int.tmod t (((d + 1 : Nat) : Int) + 1) := ⟨(Int.tmod t (((d + 1 : Nat) : Int) + 1)).toNat, by omega⟩
    have hp := swap_perm l (d + 1) j (by omega) (by omega)
    obtain ⟨r, s, he, h2, h3, h4⟩ := ih t ((l.set (d + 1) (rd l (j : Int))).set j (rd l ((d + 1 : Nat) : Int))) (by omega) ht0 ht1 (by simp [hl])
    refine ⟨r, s, Ev.step he (fun k => ?_), h2.trans hp, h3, h4⟩
    simp only [spec_l01Order.l1]
    rw [if_pos (by omega), et, Option.bind_some, w64 (x := ((d + 1 : Nat) : Int) + 1) (by omega) (by omega), if_neg (by omega), if_pos (by omega), if_pos (by omega), ← hj, if_pos (by omega), if_pos (by omega), w64 (by omega) (by omega), Int.toNat_natCast, Int.toNat_natCast, show ((d + 1 : Nat) : Int) - 1 = (d : Int) from by omega]
theorem order_l0 (n : Nat) (h1 : 1 ≤ n) (hn : n ≤ 6) (seed : Int) (h0 : 0 ≤ seed) (hs : seed < 2147483647) : ∀ (d i : Nat), n - i = d → i ≤ n → ∃ r s, Ev (fun k => spec_l01Order.l0 k seed n (asc i) i) (r, s) ∧ r.Perm (asc n) ∧ 0 ≤ s ∧ s < 2147483647 := by
  intro d
  induction d with
  | zero =>
    intro i hd hi
    obtain rfl : i = n := by omega
    obtain ⟨r, s, he, h2, h3, h4⟩ := order_l1 i hn (i - 1) seed (asc i) (by omega) h0 hs (by rw [asc_length]; omega)
    refine ⟨r, s, Ev.step he (fun k => ?_), h2, h3, h4⟩
    simp only [spec_l01Order.l0]
    rw [if_neg (by omega), w64 (by omega) (by omega), show (i : Int) - 1 = ((i - 1 : Nat) : Int) from by omega]
  | succ d ih =>
    intro i hd hi
    obtain ⟨r, s, he, h2, h3, h4⟩ := ih (i + 1) (by omega) (by omega)
    refine ⟨r, s, Ev.step he (fun k => ?_), h2, h3, h4⟩
    simp only [spec_l01Order.l0]
    rw [if_pos (by omega), if_pos (by rw [asc_length]; omega), asc_succ, w64 (by omega) (by omega), show (i : Int) + 1 = ((i + 1 : Nat) : Int) from by omega]
theorem order_ok (n : Nat) (h1 : 1 ≤ n) (hn : n ≤ 6) (seed : Int) (h0 : 0 ≤ seed) (hs : seed < 2147483647) : ∃ r s, Ev (fun k => spec_l01Order.f k seed n) (r, s) ∧ r.Perm (asc n) ∧ 0 ≤ s ∧ s < 2147483647 :=
  order_l0 n h1 hn seed h0 hs n 0 (by omega) (by omega)
theorem seed_l0 (n : Nat) (h1 : 1 ≤ n) (hn : n ≤ 6) : ∀ (d i : Nat) (seed : Int) (rows : List (List Int)), n - i = d → i ≤ n → 0 ≤ seed → seed < 2147483647 → rows.length = i → (∀ x ∈ rows, x.Perm (asc n)) → ∃ r m, Ev (fun k => spec_l03Seed.l0 k n seed i rows) (r, m) ∧ Good n r m := by
  intro d
  induction d with
  | zero =>
    intro i seed rows hd hi h0 hs hl hr
    obtain rfl : i = n := by omega
    obtain ⟨m, s, he, hm, _, _⟩ := order_ok i h1 hn seed h0 hs
    refine ⟨rows, m, Ev.step (Ev.bind (G := fun _ bt => some (rows, bt.1)) he (Ev.const rfl)) (fun k => ?_), hl, hr, hm⟩
    simp only [spec_l03Seed.l0]
    rw [if_neg (by omega)]
  | succ d ih =>
    intro i seed rows hd hi h0 hs hl hr
    obtain ⟨m, s, he, hm, hs0, hs1⟩ := order_ok n h1 hn seed h0 hs
    obtain ⟨r, ms, he2, hg⟩ := ih (i + 1) s (rows ++ [m]) (by omega) (by omega) hs0 hs1 (by simp [hl]) (by
      intro x hx
      rcases List.mem_append.1 hx with hx | hx
      · exact hr x hx
      · rw [List.mem_singleton.1 hx]; exact hm)
    refine ⟨r, ms, Ev.step (Ev.bind (G := fun k bt => if rows.length < 5864062014805 then spec_l03Seed.l0 k n bt.2 (wrap64 ((i : Int) + 1)) (rows ++ [bt.1]) else none) he ?_) (fun k => ?_), hg⟩
    · refine Ev.congr he2 (fun k => ?_)
      rw [if_pos (by omega), w64 (by omega) (by omega), show (i : Int) + 1 = ((i + 1 : Nat) : Int) from by omega]
    · simp only [spec_l03Seed.l0]
      rw [if_pos (by omega)]
theorem seed_good (n : Nat) (h1 : 1 ≤ n) (hn : n ≤ 6) (seed : Int) (h0 : 0 ≤ seed) (hs : seed < 2147483647) : ∃ r m, Ev (fun k => spec_l03Seed.f k n seed) (r, m) ∧ Good n r m :=
  seed_l0 n h1 hn n 0 seed [] (by omega) (by omega) h0 hs rfl (by simp)
theorem Good.put {n : Nat} {r : List (List Int)} {m : List Int} (h : Good n r m) (j : Nat) {o : List Int} (ho : o.Perm (asc n)) : Good n (r.set j o) m :=
  ⟨by rw [List.length_set]; exact h.len, fun x hx => by
    rcases List.mem_or_eq_of_mem_set hx with hx | rfl
    · exact h.row x hx
    · exact ho, h.miss⟩
theorem one_ok (l : List Int) (hl : l.length ≤ 140737488351232) (hb : ∀ x ∈ l, 0 ≤ x ∧ x < 256) (p q n : Int) (hp : 0 ≤ p) (hp' : p < 4611686018427387000) (hn : 1 ≤ n) :
    ∃ b p' q', spec_l00Src_one.f l p q n = some (b, p', q') ∧ p ≤ p' ∧ p' ≤ p + 2 := by
  unfold spec_l00Src_one.f
  obtain ⟨v, p', q', e, _, _, h2, h3⟩ := pick_ok l hl hb p q n hp hp' hn
  rw [e, Option.bind_some]
  exact ⟨_, _, _, rfl, h2, h3⟩
theorem drawOf_j0 (l : List Int) (hl : l.length ≤ 140737488351232) (hb : ∀ x ∈ l, 0 ≤ x ∧ x < 256) (p q : Int) (n : Nat) (h1 : 1 ≤ n) (hn : n ≤ 6) (hp : 0 ≤ p) (hp' : p < 1000000) :
    ∃ r m p' q', Ev (fun k => spec_l03DrawOf.j0 k n l p q) (r, m, p', q') ∧ Good n r m ∧ p ≤ p' ∧ p' ≤ p + 8 := by
  obtain ⟨r, m, eL, gL⟩ := lru_good n h1 hn
  obtain ⟨v1, p1, q1, e1, hv10, hv11, hp1, hp1'⟩ := pick_ok l hl hb p q n hp (by omega) (by omega)
  obtain ⟨v2, p2, q2, e2, hv20, hv21, hp2, hp2'⟩ := pick_ok l hl hb p1 q1 50000 (by omega) (by omega) (by omega)
  obtain ⟨o, s, eO, hO, _, _⟩ := order_ok n h1 hn (1 + v2) (by omega) (by omega)
  obtain ⟨b3, p3, q3, e3, hp3, hp3'⟩ := one_ok l hl hb p2 q2 2 (by omega) (by omega) (by omega)
  obtain ⟨b4, p4, q4, e4, hp4, hp4'⟩ := one_ok l hl hb p3 q3 2 (by omega) (by omega) (by omega)
  obtain ⟨sm, eS, hS⟩ := same_good n h1 hn
  have hw : wrap64 (1 + v2) = 1 + v2 := w64 (by omega) (by omega)
  have hrl := gL.len
  obtain ⟨j, hj⟩ : ∃ j : Nat, (j : Int) = v1 := ⟨v1.toNat, by omega⟩
  subst hj
  have hjr : (j : Int) < (r.length : Int) := by omega
  obtain ⟨ka, ha⟩ := eL
  obtain ⟨kb, hb'⟩ := eO
  obtain ⟨kc, hc⟩ := eS
  have key : ∃ R, (∀ k, max ka (max kb kc) ≤ k → spec_l03DrawOf.j0 (k + 1) n l p q = some R) ∧ Good n R.1 R.2.1 ∧ p ≤ R.2.2.1 ∧ R.2.2.1 ≤ p + 8 := by
    cases b3 with
    | true =>
      refine ⟨(r.set j o, m, p3, q3), fun k hk => ?_, gL.put j hO, by dsimp only; omega, by dsimp only; omega⟩
      have ha' := ha k (by omega)
      have hb'' := hb' k (by omega)
      dsimp only at ha' hb''
      simp only [spec_l03DrawOf.j0]
      rw [ha', Option.bind_some, e1, Option.bind_some]
      dsimp only
      rw [e2, Option.bind_some]
      dsimp only
      rw [hw, hb'', Option.bind_some, e3, Option.bind_some]
      dsimp only
      rw [if_pos rfl, if_pos (by omega), if_pos hjr, Int.toNat_natCast]
    | false =>
      cases b4 with
      | true =>
        refine ⟨(r.set j sm, m, p4, q4), fun k hk => ?_, gL.put j hS, by dsimp only; omega, by dsimp only; omega⟩
        have ha' := ha k (by omega)
        have hb'' := hb' k (by omega)
        have hc' := hc k (by omega)
        dsimp only at ha' hb'' hc'
        simp only [spec_l03DrawOf.j0]
        rw [ha', Option.bind_some, e1, Option.bind_some]
        dsimp only
        rw [e2, Option.bind_some]
        dsimp only
        rw [hw, hb'', Option.bind_some, e3, Option.bind_some]
        dsimp only
        rw [if_neg (by simp), e4, Option.bind_some]
        dsimp only
        rw [if_pos rfl, hc', Option.bind_some, if_pos (by omega), if_pos hjr, Int.toNat_natCast]
      | false =>
        refine ⟨(r, o, p4, q4), fun k hk => ?_, ⟨gL.len, gL.row, hO⟩, by dsimp only; omega, by dsimp only; omega⟩
        have ha' := ha k (by omega)
        have hb'' := hb' k (by omega)
        dsimp only at ha' hb''
        simp only [spec_l03DrawOf.j0]
        rw [ha', Option.bind_some, e1, Option.bind_some]
        dsimp only
        rw [e2, Option.bind_some]
        dsimp only
        rw [hw, hb'', Option.bind_some, e3, Option.bind_some]
        dsimp only
        rw [if_neg (by simp), e4, Option.bind_some]
        dsimp only
        rw [if_neg (by simp)]
  obtain ⟨⟨R1, R2, R3, R4⟩, h2, h3, h4, h5⟩ := key
  exact ⟨R1, R2, R3, R4, Ev.step (Ev.of _ h2) (fun k => rfl), h3, h4, h5⟩
theorem drawOf_ok (l : List Int) (hl : l.length ≤ 140737488351232) (hb : ∀ x ∈ l, 0 ≤ x ∧ x < 256) (p q : Int) (n : Nat) (h1 : 1 ≤ n) (hn : n ≤ 6) (hp : 0 ≤ p) (hp' : p < 100000) :
    ∃ r m p' q', Ev (fun k => spec_l03DrawOf.f k l p q n) (r, m, p', q') ∧ Good n r m ∧ p ≤ p' ∧ p' ≤ p + 10 := by
  obtain ⟨v, p1, q1, e1, hv0, hv1, hp1, hp1'⟩ := pick_ok l hl hb p q 7 hp (by omega) (by omega)
  obtain ⟨v2, p2, q2, e2, hv20, hv21, hp2, hp2'⟩ := pick_ok l hl hb p1 q1 50000 (by omega) (by omega) (by omega)
  obtain ⟨rJ, mJ, pJ, qJ, eJ, gJ, hpJ, hpJ'⟩ := drawOf_j0 l hl hb p1 q1 n h1 hn (by omega) (by omega)
  obtain ⟨r0, m0, e0, g0⟩ := lru_good n h1 hn
  obtain ⟨rF, mF, eF, gF⟩ := fifo_good n h1 hn
  obtain ⟨rM, mM, eM, gM⟩ := mru_good n h1 hn
  obtain ⟨rS, mS, eS, gS⟩ := seed_good n h1 hn (1 + v2) (by omega) (by omega)
  have hw : wrap64 (1 + v2) = 1 + v2 := w64 (by omega) (by omega)
  have hcase : v = 0 ∨ v = 1 ∨ v = 2 ∨ v = 3 ∨ v = 4 ∨ (v = 5 ∨ v = 6) := by omega
  rcases hcase with rfl | rfl | rfl | rfl | rfl | h56
  · refine ⟨r0, m0, p1, q1, Ev.congr (Ev.bind (G := fun _ bt => some (bt.1, bt.2, p1, q1)) e0 (Ev.const rfl)) (fun k => ?_), g0, hp1, by omega⟩
    unfold spec_l03DrawOf.f
    rw [e1, Option.bind_some]
    dsimp only
    rw [if_pos rfl]
  · refine ⟨rF, mF, p1, q1, Ev.congr (Ev.bind (G := fun _ bt => some (bt.1, bt.2, p1, q1)) eF (Ev.const rfl)) (fun k => ?_), gF, hp1, by omega⟩
    unfold spec_l03DrawOf.f
    rw [e1, Option.bind_some]
    dsimp only
    rw [if_neg (by decide), if_pos rfl]
  · refine ⟨rM, mM, p1, q1, Ev.congr (Ev.bind (G := fun _ bt => some (bt.1, bt.2, p1, q1)) eM (Ev.const rfl)) (fun k => ?_), gM, hp1, by omega⟩
    unfold spec_l03DrawOf.f
    rw [e1, Option.bind_some]
    dsimp only
    rw [if_neg (by decide), if_neg (by decide), if_pos rfl]
  · by_cases h24 : n = 2 ∨ n = 4
    · obtain ⟨rT, mT, eT, gT⟩ := tree_good n h24
      refine ⟨rT, mT, p1, q1, Ev.congr (Ev.bind (G := fun _ bt => some (bt.1, bt.2, p1, q1)) eT (Ev.const rfl)) (fun k => ?_), gT, hp1, by omega⟩
      unfold spec_l03DrawOf.f
      rw [e1, Option.bind_some]
      dsimp only
      rw [if_neg (by decide), if_neg (by decide), if_neg (by decide), if_pos rfl]
      rcases h24 with rfl | rfl
      · rw [if_pos (by omega)]
      · rw [if_neg (by omega), if_pos (by omega)]
    · refine ⟨rJ, mJ, pJ, qJ, Ev.congr eJ (fun k => ?_), gJ, by omega, by omega⟩
      unfold spec_l03DrawOf.f
      rw [e1, Option.bind_some]
      dsimp only
      rw [if_neg (by decide), if_neg (by decide), if_neg (by decide), if_pos rfl, if_neg (by omega), if_neg (by omega)]
  · refine ⟨rS, mS, p2, q2, Ev.congr (Ev.bind (G := fun _ bt => some (bt.1, bt.2, p2, q2)) eS (Ev.const rfl)) (fun k => ?_), gS, by omega, by omega⟩
    unfold spec_l03DrawOf.f
    rw [e1, Option.bind_some]
    dsimp only
    rw [if_neg (by decide), if_neg (by decide), if_neg (by decide), if_neg (by decide), if_pos rfl, e2, Option.bind_some]
    dsimp only
    rw [hw]
  · refine ⟨rJ, mJ, pJ, qJ, Ev.congr eJ (fun k => ?_), gJ, by omega, by omega⟩
    unfold spec_l03DrawOf.f
    rw [e1, Option.bind_some]
    dsimp only
    rw [if_neg (by omega), if_neg (by omega), if_neg (by omega), if_neg (by omega), if_neg (by omega)]
theorem drawOk_ok (l : List Int) (hl : l.length ≤ 140737488351232) (hb : ∀ x ∈ l, 0 ≤ x ∧ x < 256) (p q : Int) (hp : 0 ≤ p) (hp' : p < 10000) :
    ∃ (n : Nat) (r : List (List Int)) (m : List Int) (p' q' : Int), Ev (fun k => spec_l03DrawOk.f k l p q) (r, m, p', q') ∧ Good n r m ∧ 1 ≤ n ∧ n ≤ 6 ∧ p ≤ p' ∧ p' ≤ p + 20 := by
  obtain ⟨v, p1, q1, e1, hv0, hv1, hp1, hp1'⟩ := pick_ok l hl hb p q 4 hp (by omega) (by omega)
  obtain ⟨b, p2, q2, e2, hp2, hp2'⟩ := one_ok l hl hb p1 q1 6 (by omega) (by omega) (by omega)
  cases b with
  | true =>
    obtain ⟨r, m, p3, q3, e3, g3, hp3, hp3'⟩ := drawOf_ok l hl hb p2 q2 6 (by omega) (by omega) (by omega) (by omega)
    refine ⟨6, r, m, p3, q3, Ev.congr (Ev.bind (G := fun _ bt => some (bt.1, bt.2.1, bt.2.2.1, bt.2.2.2)) e3 (Ev.const rfl)) (fun k => ?_), g3, by omega, by omega, by omega, by omega⟩
    unfold spec_l03DrawOk.f
    rw [e1, Option.bind_some]
    dsimp only
    rw [e2, Option.bind_some]
    dsimp only
    rw [if_pos rfl]
    rfl
  | false =>
    obtain ⟨n, hn⟩ : ∃ n : Nat, (n : Int) = 1 + v := ⟨(1 + v).toNat, by omega⟩
    obtain ⟨r, m, p3, q3, e3, g3, hp3, hp3'⟩ := drawOf_ok l hl hb p2 q2 n (by omega) (by omega) (by omega) (by omega)
    refine ⟨n, r, m, p3, q3, Ev.congr (Ev.bind (G := fun _ bt => some (bt.1, bt.2.1, bt.2.2.1, bt.2.2.2)) e3 (Ev.const rfl)) (fun k => ?_), g3, by omega, by omega, by omega, by omega⟩
    unfold spec_l03DrawOk.f
    rw [e1, Option.bind_some]
    dsimp only
    rw [e2, Option.bind_some]
    dsimp only
    rw [if_neg (by simp), w64 (by omega) (by omega), ← hn]
theorem B10Policy_ok (l : List Int) (hl : l.length ≤ 140737488351232) (hb : ∀ x ∈ l, 0 ≤ x ∧ x < 256) :
    ∃ (n : Nat) (r : List (List Int)) (m : List Int), Ev (fun k => spec_B10Policy.f k l) (r, m) ∧ Good n r m ∧ 1 ≤ n ∧ n ≤ 6 := by
  obtain ⟨n, r, m, p', q', e, g, h1, h2, _, _⟩ := drawOk_ok l hl hb 0 0 (by omega) (by omega)
  refine ⟨n, r, m, Ev.congr (Ev.bind (G := fun _ bt => some (bt.1, bt.2.1)) e (Ev.const rfl)) (fun k => ?_), g, h1, h2⟩
  unfold spec_B10Policy.f spec_l00From.f
  rw [Option.bind_some]
/-! ### Contents and their steps -/
structure Cont (n : Nat) (c : List Int) : Prop where
  len : c.length = n
  rng : ∀ x ∈ c, -1 ≤ x ∧ x ≤ 63
  nod : (toldOf c).Nodup
theorem toldOf_perm {a b : List Int} (h : a.Perm b) : (toldOf a).Perm (toldOf b) := h.filter _
theorem Cont.perm {n : Nat} {a b : List Int} (h : Cont n a) (hp : b.Perm a) : Cont n b :=
  ⟨by rw [hp.length_eq]; exact h.len, fun x hx => h.rng x (hp.mem_iff.1 hx), (toldOf_perm hp).nodup_iff.2 h.nod⟩
theorem map_perm {n : Nat} {ages c : List Int} (hp : ages.Perm (asc n)) (hc : c.length = n) : (ages.map (rd c)).Perm c := by
  have h1 : (asc (n : Int)).map (rd c) = c := by rw [map_rd_range c n (by omega), ← hc, List.take_length]
  have h2 := hp.map (rd c)
  rw [h1] at h2
  exact h2
theorem cont_empty (n : Nat) : Cont n (List.replicate n (-1)) := by
  refine ⟨by simp, fun x hx => ?_, ?_⟩
  · rw [(List.mem_replicate.1 hx).2]; omega
  · have : toldOf (List.replicate n (-1)) = [] := by
      unfold toldOf
      rw [List.filter_eq_nil_iff]
      intro x hx
      rw [(List.mem_replicate.1 hx).2]
      decide
    rw [this]
    exact List.nodup_nil
theorem set_last (c : List Int) (a : Int) (h : 0 < c.length) : c.set (c.length - 1) a = c.take (c.length - 1) ++ [a] := by
  rw [List.set_eq_take_append_cons_drop, if_pos (by omega), List.drop_of_length_le (by omega)]
theorem cont_miss {n : Nat} {c : List Int} (h : Cont n c) (h1 : 1 ≤ n) {a : Int} (h0 : 0 ≤ a) (ha : a < 64) (hn : a ∉ c) : Cont n (c.set (n - 1) a) := by
  have hl := h.len
  subst hl
  rw [set_last c a h1]
  refine ⟨by simp; omega, fun x hx => ?_, ?_⟩
  · rcases List.mem_append.1 hx with hx | hx
    · exact h.rng x (List.mem_of_mem_take hx)
    · rw [List.mem_singleton.1 hx]; omega
  · have e : toldOf (c.take (c.length - 1) ++ [a]) = toldOf (c.take (c.length - 1)) ++ [a] := by
      unfold toldOf
      rw [List.filter_append]
      congr 1
      have : ¬ a < 0 := by omega
      simp [this]
    rw [e, List.nodup_append]
    refine ⟨List.Nodup.sublist (List.Sublist.filter _ (List.take_sublist _ _)) h.nod, by simp, ?_⟩
    intro x hx y hy exy
    rw [List.mem_singleton.1 hy] at exy
    unfold toldOf at hx
    exact hn (exy ▸ List.mem_of_mem_take (List.mem_filter.1 hx).1)
theorem dis_nd : ∀ (l : List Int), l.Nodup → dis l = l
  | [], _ => rfl
  | a :: r, h => by
    rw [List.nodup_cons] at h
    rw [dis_cons, dis_nd r h.2]
    congr 1
    rw [List.filter_eq_self]
    intro x hx
    have : x ≠ a := by rintro rfl; exact h.1 hx
    simpa using this
theorem cont_valid {n : Nat} {rows : List (List Int)} {ms c : List Int} (G : Good n rows ms) (h1 : 1 ≤ n) (h2 : n ≤ 6) (h : Cont n c) : impl_ValidContents.f rows ms c = some true := by
  have hv := valid_of n h1 h2 rows ms G.len G.row G.miss
  have hml : ms.length = n := by rw [G.miss.length_eq, asc_length]; omega
  have hcl := h.len
  unfold impl_ValidContents.f
  rw [if_pos ⟨hv, by omega, by omega, by omega⟩, set_len (toldOf c) (toldOf c) (fun _ => Iff.rfl), dis_nd _ h.nod, decide_eq_true rfl, Bool.and_true]
  congr 1
  rw [List.all_eq_true]
  intro x hx
  have := h.rng x hx
  simp [inR]
  omega
theorem rd_of_mem {c : List Int} {a : Int} (h : a ∈ c) : ∃ j, j < c.length ∧ rd c (j : Int) = a := by
  obtain ⟨j, hj, e⟩ := List.mem_iff_getElem.1 h
  exact ⟨j, hj, by rw [rd_get hj]; exact e⟩
theorem step_ok {n : Nat} {rows : List (List Int)} {ms c : List Int} (G : Good n rows ms) (h1 : 1 ≤ n) (h2 : n ≤ 6) (h : Cont n c) (a : Int) (h0 : 0 ≤ a) (ha : a < 64) :
    ∃ c' o, (∀ k, 10 ≤ k → impl_Policy_step.f k rows ms c a = some (c', o, decide (a ∈ c))) ∧ Cont n c' ∧ a ∈ c' ∧ (a ∈ c → o = -1) ∧ (a ∉ c → o = rd c ((n - 1 : Nat) : Int)) ∧ (∀ x ∈ c', x = a ∨ x ∈ c) := by
  have hcl := h.len
  have key : ∃ c' o, impl_Policy_step.f 10 rows ms c a = some (c', o, decide (a ∈ c)) ∧ Cont n c' ∧ a ∈ c' ∧ (a ∈ c → o = -1) ∧ (a ∉ c → o = rd c ((n - 1 : Nat) : Int)) ∧ (∀ x ∈ c', x = a ∨ x ∈ c) := by
    by_cases hm : a ∈ c
    · obtain ⟨j, hj, hja⟩ := rd_of_mem hm
      have hrow : ∀ i, i < n → (rows.getD i []).Perm (asc n) := fun i hi => by
        rw [List.getD_eq_getElem?_getD, List.getElem?_eq_getElem (by rw [G.len]; exact hi)]
        exact G.row _ (List.getElem_mem _)
      obtain ⟨i, hi, hia, e⟩ := step_hit rows ms n j c a hcl.symm h2 G.len 10 (by omega) (fun i hi => by
        have hp := hrow i hi
        refine ⟨by rw [hp.length_eq, asc_length]; omega, fun x hx => asc_mem (hp.mem_iff.1 hx)⟩) hj hja
      have hp := map_perm (hrow i (by omega)) hcl
      refine ⟨_, _, by rw [e, decide_eq_true hm], h.perm hp, hp.mem_iff.2 hm, fun _ => rfl, fun hq => absurd hm hq, fun x hx => .inr (hp.mem_iff.1 hx)⟩
    · have hA : ∀ j, j < c.length → rd c (j : Int) ≠ a := fun j hj e => hm (by rw [rd_get hj] at e; rw [← e]; exact List.getElem_mem _)
      have hp : (ms.map (rd (c.set (n - 1) a))).Perm (c.set (n - 1) a) := map_perm G.miss (by simp [hcl])
      have hml : ms.length = n := by rw [G.miss.length_eq, asc_length]; omega
      refine ⟨ms.map (rd (c.set (n - 1) a)), rd c ((n - 1 : Nat) : Int), ?_, (cont_miss h h1 h0 ha hm).perm hp, hp.mem_iff.2 ?_, fun hq => absurd hq hm, fun _ => rfl, fun x hx => ?_⟩
      · unfold impl_Policy_step.f
        rcases index_ok c a (by omega) 10 (by omega) with ⟨j, hj, hja, e⟩ | ⟨_, e⟩
        · exact absurd hja (hA j hj)
        · rw [e, Option.bind_some, if_neg (by omega), decide_eq_false hm]
          unfold slices_Clone_int64_int64.f
          rw [if_pos (by omega), Option.bind_some, w64 (by omega) (by omega), if_pos (by omega), if_pos (by omega), show (c.length : Int) - 1 = ((n - 1 : Nat) : Int) from by omega, Int.toNat_natCast,
            permuted_ok _ _ (by simp; omega) (by omega) (fun x hx => by have := asc_mem (G.miss.mem_iff.1 hx); simp; omega) 10 (by omega), Option.bind_some]
      · rw [← hcl, set_last c a (by omega)]
        simp
      · have hx' := hp.mem_iff.1 hx
        rcases List.mem_or_eq_of_mem_set hx' with hx' | rfl
        · exact .inr hx'
        · exact .inl rfl
  obtain ⟨c', o, e, h3⟩ := key
  exact ⟨c', o, fun k hk => at_rounds (g := fun k => impl_Policy_step.f k rows ms c a) (fun k => impl_Policy_step.mono _ _ _ _ k) hk e, h3⟩
/-! ### Runs -/
def stp (rows : List (List Int)) (ms c : List Int) (a : Int) : List Int × Int × Bool := (impl_Policy_step.f 10 rows ms c a).getD ([], 0, false)
theorem stp_ok {n : Nat} {rows : List (List Int)} {ms c : List Int} (G : Good n rows ms) (h1 : 1 ≤ n) (h2 : n ≤ 6) (h : Cont n c) (a : Int) (h0 : 0 ≤ a) (ha : a < 64) :
    (∀ k, 10 ≤ k → impl_Policy_step.f k rows ms c a = some (stp rows ms c a)) ∧ Cont n (stp rows ms c a).1 ∧ a ∈ (stp rows ms c a).1 ∧ (stp rows ms c a).2.2 = decide (a ∈ c) ∧ (a ∈ c → (stp rows ms c a).2.1 = -1) ∧ (a ∉ c → (stp rows ms c a).2.1 = rd c ((n - 1 : Nat) : Int)) ∧ (∀ x ∈ (stp rows ms c a).1, x = a ∨ x ∈ c) := by
  obtain ⟨c', o, e, h3, h4, h5, h6, h7⟩ := step_ok G h1 h2 h a h0 ha
  have es : stp rows ms c a = (c', o, decide (a ∈ c)) := by unfold stp; rw [e 10 (by omega)]; rfl
  rw [es]
  exact ⟨e, h3, h4, rfl, h5, h6, h7⟩
/-- The contents behind i uses. -/
def stt (rows : List (List Int)) (ms us : List Int) : Nat → List Int
  | 0 => List.replicate ms.length (-1)
  | i + 1 => (stp rows ms (stt rows ms us i) (rd us (i : Int))).1
def hitA (rows : List (List Int)) (ms us : List Int) (i : Nat) : Int := if (stp rows ms (stt rows ms us i) (rd us (i : Int))).2.2 = true then 1 else 0
def oldA (rows : List (List Int)) (ms us : List Int) (i : Nat) : Int := (stp rows ms (stt rows ms us i) (rd us (i : Int))).2.1
theorem stt_cont {n : Nat} {rows : List (List Int)} {ms us : List Int} (G : Good n rows ms) (h1 : 1 ≤ n) (h2 : n ≤ 6) (hu : ∀ x ∈ us, 0 ≤ x ∧ x < 64) : ∀ i, i ≤ us.length → Cont n (stt rows ms us i)
  | 0, _ => by
    have hml : ms.length = n := by rw [G.miss.length_eq, asc_length]; omega
    unfold stt
    rw [hml]
    exact cont_empty n
  | i + 1, hi => by
    have hx := hu _ (show rd us (i : Int) ∈ us from by rw [rd_get (by omega)]; exact List.getElem_mem _)
    exact (stp_ok G h1 h2 (stt_cont G h1 h2 hu i (by omega)) _ hx.1 hx.2).2.1
theorem range_snoc (f : Nat → Int) (i : Nat) : (List.range i).map f ++ [f i] = (List.range (i + 1)).map f := by rw [List.range_succ, List.map_append]; rfl
theorem run_l0 {n : Nat} {rows : List (List Int)} {ms us : List Int} (G : Good n rows ms) (h1 : 1 ≤ n) (h2 : n ≤ 6) (hul : us.length ≤ 60) (hu : ∀ x ∈ us, 0 ≤ x ∧ x < 64) : ∀ (d i : Nat), us.length - i = d → i ≤ us.length →
    Ev (fun k => impl_Policy_run.l0 k (stt rows ms us i) ((List.range i).map (hitA rows ms us)) ((List.range i).map (oldA rows ms us)) us us.length i rows ms) ((List.range us.length).map (hitA rows ms us), (List.range us.length).map (oldA rows ms us), stt rows ms us us.length) := by
  intro d
  induction d with
  | zero =>
    intro i hd hi
    obtain rfl : i = us.length := by omega
    refine Ev.step (Ev.const (o := some _) rfl) (fun k => ?_)
    simp only [impl_Policy_run.l0]
    rw [if_neg (by omega)]
  | succ d ih =>
    intro i hd hi
    obtain ⟨k0, hk0⟩ := ih (i + 1) (by omega) (by omega)
    have hx := hu _ (show rd us (i : Int) ∈ us from by rw [rd_get (by omega)]; exact List.getElem_mem _)
    obtain ⟨e, _, _, _, _, _⟩ := stp_ok G h1 h2 (stt_cont G h1 h2 hu i (by omega)) _ hx.1 hx.2
    refine ⟨max k0 10 + 1, fun k hk => ?_⟩
    obtain ⟨k, rfl⟩ : ∃ j, k = j + 1 := ⟨k - 1, by omega⟩
    have e1 := hk0 k (by omega)
    dsimp only at e1 ⊢
    simp only [impl_Policy_run.l0]
    have hl1 : ((List.range i).map (hitA rows ms us)).length < 17592186044416 := by simp; omega
    have hl2 : ((List.range i).map (oldA rows ms us)).length < 17592186044416 := by simp; omega
    rw [if_pos (by omega), if_pos (by omega), if_pos (by omega), e k (by omega), Option.bind_some, if_pos hl1, if_pos hl2, if_pos hl1, if_pos hl2, w64 (by omega) (by omega), show (i : Int) + 1 = ((i + 1 : Nat) : Int) from by omega]
    rw [← range_snoc, ← range_snoc, show stt rows ms us (i + 1) = (stp rows ms (stt rows ms us i) (rd us (i : Int))).1 from rfl,
      show hitA rows ms us i = if (stp rows ms (stt rows ms us i) (rd us (i : Int))).2.2 = true then 1 else 0 from rfl,
      show oldA rows ms us i = (stp rows ms (stt rows ms us i) (rd us (i : Int))).2.1 from rfl] at e1
    cases hh : (stp rows ms (stt rows ms us i) (rd us (i : Int))).2.2 with
    | true =>
      rw [hh, if_pos rfl] at e1
      rw [if_pos rfl]
      exact e1
    | false =>
      rw [hh, if_neg (by simp)] at e1
      rw [if_neg (by simp)]
      exact e1
theorem run_ok {n : Nat} {rows : List (List Int)} {ms us : List Int} (G : Good n rows ms) (h1 : 1 ≤ n) (h2 : n ≤ 6) (hul : us.length ≤ 60) (hu : ∀ x ∈ us, 0 ≤ x ∧ x < 64) :
    Ev (fun k => impl_Policy_run.f k rows ms us) ((List.range us.length).map (hitA rows ms us), (List.range us.length).map (oldA rows ms us), stt rows ms us us.length) := by
  have hml : ms.length = n := by rw [G.miss.length_eq, asc_length]; omega
  refine Ev.congr (run_l0 G h1 h2 hul hu us.length 0 (by omega) (by omega)) (fun k => ?_)
  unfold impl_Policy_run.f
  rw [empty_ok _ _ (by omega), Option.bind_some]
  rfl
theorem hitA_01 (rows : List (List Int)) (ms us : List Int) (i : Nat) : hitA rows ms us i = 0 ∨ hitA rows ms us i = 1 := by
  unfold hitA; split
  · exact .inr rfl
  · exact .inl rfl
theorem sum01 (l : List Int) (h : ∀ x ∈ l, x = 0 ∨ x = 1) : 0 ≤ l.sum ∧ l.sum ≤ l.length := by
  induction l with
  | nil => simp
  | cons a r ih =>
    have h1 := ih (fun x hx => h x (List.mem_cons_of_mem _ hx))
    have h2 := h a List.mem_cons_self
    simp only [List.sum_cons, List.length_cons]
    omega
theorem sum_take_succ (l : List Int) (i : Nat) (h : i < l.length) : (l.take (i + 1)).sum = (l.take i).sum + rd l (i : Int) := by
  rw [List.take_succ_eq_append_getElem h, List.sum_append, rd_get h]
  simp
theorem mem_take01 {l : List Int} (h : ∀ x ∈ l, x = 0 ∨ x = 1) (i : Nat) : ∀ x ∈ l.take i, x = 0 ∨ x = 1 := fun x hx => h x (List.mem_of_mem_take hx)
theorem sum_l0 (l : List Int) (hl : l.length ≤ 60) (h : ∀ x ∈ l, x = 0 ∨ x = 1) : ∀ (d i : Nat), l.length - i = d → i ≤ l.length → Ev (fun k => laws_b10Sum.l0 k l (l.take i).sum i) l.sum := by
  intro d
  induction d with
  | zero =>
    intro i hd hi
    obtain rfl : i = l.length := by omega
    refine Ev.step (Ev.const (o := some _) rfl) (fun k => ?_)
    simp only [laws_b10Sum.l0]
    rw [if_neg (by omega), List.take_length]
  | succ d ih =>
    intro i hd hi
    refine Ev.step (ih (i + 1) (by omega) (by omega)) (fun k => ?_)
    have h1 := sum01 _ (mem_take01 h i)
    have h2 : rd l (i : Int) = 0 ∨ rd l (i : Int) = 1 := h _ (by rw [rd_get (by omega)]; exact List.getElem_mem _)
    have h3 : (l.take i).length ≤ 60 := by simp; omega
    simp only [laws_b10Sum.l0]
    rw [if_pos (by omega), if_pos (by omega), w64 (x := (l.take i).sum + rd l (i : Int)) (by omega) (by omega), ← sum_take_succ l i (by omega), w64 (by omega) (by omega), show (i : Int) + 1 = ((i + 1 : Nat) : Int) from by omega]
theorem sum_ok (l : List Int) (hl : l.length ≤ 60) (h : ∀ x ∈ l, x = 0 ∨ x = 1) : Ev (fun k => laws_b10Sum.f k l) l.sum := sum_l0 l hl h l.length 0 (by omega) (by omega)
theorem misses_l0 (l : List Int) (hl : l.length ≤ 60) (h : ∀ x ∈ l, x = 0 ∨ x = 1) : ∀ (d i : Nat), l.length - i = d → i ≤ l.length → Ev (fun k => impl_Policy_misses.l0 k ((i : Int) - (l.take i).sum) l l.length i) ((l.length : Int) - l.sum) := by
  intro d
  induction d with
  | zero =>
    intro i hd hi
    obtain rfl : i = l.length := by omega
    refine Ev.step (Ev.const (o := some _) rfl) (fun k => ?_)
    simp only [impl_Policy_misses.l0]
    rw [if_neg (by omega), List.take_length]
  | succ d ih =>
    intro i hd hi
    refine Ev.step (ih (i + 1) (by omega) (by omega)) (fun k => ?_)
    have h1 := sum01 _ (mem_take01 h i)
    have h2 : rd l (i : Int) = 0 ∨ rd l (i : Int) = 1 := h _ (by rw [rd_get (by omega)]; exact List.getElem_mem _)
    have h3 : (l.take i).length ≤ 60 := by simp; omega
    have h4 := sum_take_succ l i (by omega)
    simp only [impl_Policy_misses.l0]
    rw [if_pos (by omega), if_pos (by omega), if_pos (by omega), w64 (x := 1 - rd l (i : Int)) (by omega) (by omega), w64 (x := (i : Int) - (l.take i).sum + (1 - rd l (i : Int))) (by omega) (by omega), w64 (by omega) (by omega), show (i : Int) + 1 = ((i + 1 : Nat) : Int) from by omega, h4,
      show (i : Int) - (l.take i).sum + (1 - rd l (i : Int)) = ((i + 1 : Nat) : Int) - ((l.take i).sum + rd l (i : Int)) from by omega]
theorem hits_01 (rows : List (List Int)) (ms us : List Int) : ∀ x ∈ (List.range us.length).map (hitA rows ms us), x = 0 ∨ x = 1 := by
  intro x hx
  obtain ⟨i, _, rfl⟩ := List.mem_map.1 hx
  exact hitA_01 rows ms us i
theorem misses_f {n : Nat} {rows : List (List Int)} {ms us : List Int} (G : Good n rows ms) (h1 : 1 ≤ n) (h2 : n ≤ 6) (hul : us.length ≤ 60) (hu : ∀ x ∈ us, 0 ≤ x ∧ x < 64) :
    Ev (fun k => impl_Policy_misses.f k rows ms us) ((us.length : Int) - ((List.range us.length).map (hitA rows ms us)).sum) := by
  have hl : ((List.range us.length).map (hitA rows ms us)).length = us.length := by simp
  have h3 := misses_l0 _ (by omega) (hits_01 rows ms us) us.length 0 (by rw [hl]; omega) (by omega)
  refine Ev.bind (G := fun k (bt : List Int × List Int × List Int) => impl_Policy_misses.l0 k 0 bt.1 (bt.1.length : Int) 0) (run_ok G h1 h2 hul hu) ?_
  rw [hl] at h3
  refine Ev.congr h3 (fun k => ?_)
  dsimp only
  rw [hl]
  rfl
/-! ### The law of the steps -/
theorem isAddr_ok (a : Int) (h0 : 0 ≤ a) (ha : a < 64) : impl_isAddress.f a = some true := by
  unfold impl_isAddress.f impl_inRange.f
  rw [if_pos (by omega), Option.bind_some, decide_eq_true (by omega)]
theorem stepP_ok {n : Nat} {rows : List (List Int)} {ms c : List Int} (G : Good n rows ms) (h1 : 1 ≤ n) (h2 : n ≤ 6) (h : Cont n c) (a : Int) (h0 : 0 ≤ a) (ha : a < 64) (k : Nat) (hk : 10 ≤ k) :
    impl_StepPolicy.f k rows ms c a = some ((stp rows ms c a).1, (stp rows ms c a).2.2, true) := by
  unfold impl_StepPolicy.f
  rw [cont_valid G h1 h2 h, Option.bind_some, if_pos rfl, isAddr_ok a h0 ha, Option.bind_some, if_pos rfl, (stp_ok G h1 h2 h a h0 ha).1 k hk, Option.bind_some]
theorem map_range_rd (f : Nat → Int) (N i : Nat) (h : i < N) : rd ((List.range N).map f) (i : Int) = f i := by
  rw [rd_get (by simp; exact h)]
  simp
theorem steps_l0 {n : Nat} {rows : List (List Int)} {ms us : List Int} (G : Good n rows ms) (h1 : 1 ≤ n) (h2 : n ≤ 6) (hul : us.length ≤ 60) (hu : ∀ x ∈ us, 0 ≤ x ∧ x < 64) : ∀ (d i : Nat), us.length - i = d → i ≤ us.length →
    Ev (fun k => laws_FnSteps.l0 k us ((List.range us.length).map (hitA rows ms us)) (stt rows ms us us.length) ((List.range us.length).map (oldA rows ms us)) (stt rows ms us i) i rows ms) true := by
  intro d
  induction d with
  | zero =>
    intro i hd hi
    obtain rfl : i = us.length := by omega
    have hc := stt_cont G h1 h2 hu us.length (Nat.le_refl _)
    have hcl := hc.len
    refine ⟨20, fun k hk => ?_⟩
    obtain ⟨k, rfl⟩ : ∃ j, k = j + 1 := ⟨k - 1, by omega⟩
    dsimp only
    simp only [laws_FnSteps.l0]
    rw [if_neg (by omega), nums_ok _ (by omega) k (by omega), Option.bind_some]
  | succ d ih =>
    intro i hd hi
    obtain ⟨k0, hk0⟩ := ih (i + 1) (by omega) (by omega)
    have hi' : i < us.length := by omega
    have hx := hu _ (show rd us (i : Int) ∈ us from by rw [rd_get (by omega)]; exact List.getElem_mem _)
    have hc := stt_cont G h1 h2 hu i hi
    have hcl := hc.len
    obtain ⟨e, hc', hin, hh, ho1, ho2, _⟩ := stp_ok G h1 h2 hc _ hx.1 hx.2
    have hcl' := hc'.len
    have eH : rd ((List.range us.length).map (hitA rows ms us)) (i : Int) = if (stp rows ms (stt rows ms us i) (rd us (i : Int))).2.2 = true then 1 else 0 := map_range_rd (hitA rows ms us) us.length i hi'
    have eO : rd ((List.range us.length).map (oldA rows ms us)) (i : Int) = (stp rows ms (stt rows ms us i) (rd us (i : Int))).2.1 := map_range_rd (oldA rows ms us) us.length i hi'
    have lH : ((List.range us.length).map (hitA rows ms us)).length = us.length := by simp
    have lO : ((List.range us.length).map (oldA rows ms us)).length = us.length := by simp
    refine ⟨max k0 70 + 2, fun k hk => ?_⟩
    obtain ⟨k, rfl⟩ : ∃ j, k = j + 2 := ⟨k - 2, by omega⟩
    have e1 := hk0 k (by omega)
    have eS := stepP_ok G h1 h2 hc _ hx.1 hx.2 (k + 1) (by omega)
    have eV := cont_valid G h1 h2 hc'
    dsimp only at e1 ⊢
    rw [show stt rows ms us (i + 1) = (stp rows ms (stt rows ms us i) (rd us (i : Int))).1 from rfl] at e1
    generalize (List.range us.length).map (hitA rows ms us) = H at e1 eH lH ⊢
    generalize (List.range us.length).map (oldA rows ms us) = O at e1 eO lO ⊢
    generalize stt rows ms us us.length = E at e1 ⊢
    generalize stt rows ms us i = c at *
    generalize hae : rd us (i : Int) = a at *
    generalize stp rows ms c a = s at *
    obtain ⟨c', o, h⟩ := s
    dsimp only at *
    subst hh
    simp only [laws_FnSteps.l0, laws_FnSteps.j2]
    rw [if_pos (by omega), if_pos (by omega), hae, eS, Option.bind_some]
    dsimp only
    rw [if_pos rfl, has_ok c a (by omega) (k + 1) (by omega), Option.bind_some, if_neg (by simp), if_pos (by omega), eH]
    by_cases hm : a ∈ c
    · rw [decide_eq_true hm, if_pos rfl, if_neg (by decide), has_ok c' a (by omega) (k + 1) (by omega), Option.bind_some, decide_eq_true hin, if_pos rfl, eV, Option.bind_some]
      rw [if_neg (by decide), if_pos rfl, if_pos (by omega), if_pos (by omega), eO, if_pos (ho1 hm), w64 (by omega) (by omega), show (i : Int) + 1 = ((i + 1 : Nat) : Int) from by omega]
      exact e1
    · rw [decide_eq_false hm, show (if (false : Bool) = true then (1 : Int) else 0) = 0 from rfl, if_neg (show ¬ ((false != ((0 : Int) == 1)) = true) from by decide), has_ok c' a (by omega) (k + 1) (by omega), Option.bind_some, decide_eq_true hin, if_pos rfl, eV, Option.bind_some]
      rw [if_neg (show ¬ ((!true) = true) from by decide), if_neg (show ¬ (false = true) from by decide), if_pos (by omega), if_pos (by omega), w64 (x := (c.length : Int) - 1) (by omega) (by omega), if_pos (by omega), if_pos (by omega), eO, show (c.length : Int) - 1 = ((n - 1 : Nat) : Int) from by omega, if_pos (ho2 hm), w64 (by omega) (by omega), show (i : Int) + 1 = ((i + 1 : Nat) : Int) from by omega]
      exact e1
theorem FnSteps : laws_FnSteps.Pure := by
  intro l0 l1 _ hl0 hb0 _ hl1 hb1
  by_cases hlong : (l0.length : Int) > 1048576
  · exact ⟨0, by unfold laws_FnSteps.f laws_b10Long.f; rw [if_pos hlong, Option.bind_some, if_pos rfl]⟩
  by_cases hlong1 : (l1.length : Int) > 1048576
  · exact ⟨0, by unfold laws_FnSteps.f laws_b10Long.f; rw [if_neg hlong, Option.bind_some, decide_eq_true hlong1, if_pos rfl]⟩
  obtain ⟨n, rows, ms, ⟨k1, e1⟩, G, h1, h2⟩ := B10Policy_ok l0 (by omega) (byteOf hb0)
  obtain ⟨us, eu, hul, hu⟩ : ∃ us, (∀ k, 40 ≤ k → spec_B10Uses.f k l1 = some us) ∧ us.length ≤ 30 ∧ ∀ x ∈ us, 0 ≤ x ∧ x < 64 := by
    obtain ⟨us, eu, h3, h4⟩ := B10Uses_ok l1 (by omega) (byteOf hb1) 40 (by omega)
    exact ⟨us, fun k hk => at_rounds (g := fun k => spec_B10Uses.f k l1) (fun k => spec_B10Uses.mono _ k) hk eu, h3, h4⟩
  obtain ⟨k2, e2⟩ := run_ok G h1 h2 (by omega) hu
  obtain ⟨k3, e3⟩ := misses_f G h1 h2 (by omega) hu
  obtain ⟨k4, e4⟩ := steps_l0 G h1 h2 (by omega) hu us.length 0 (by omega) (by omega)
  have lH : ((List.range us.length).map (hitA rows ms us)).length = us.length := by simp
  have lO : ((List.range us.length).map (oldA rows ms us)).length = us.length := by simp
  have h01 := hits_01 rows ms us
  obtain ⟨k5, e5⟩ := sum_ok ((List.range us.length).map (hitA rows ms us)) (by omega) h01
  have hs := sum01 _ h01
  have hml : ms.length = n := by rw [G.miss.length_eq, asc_length]; omega
  have hv := valid_of n h1 h2 rows ms G.len G.row G.miss
  have hvu := uses_ok us (by omega) hu
  have hem := empty_ok rows ms (by omega)
  refine ⟨max k1 (max k2 (max k3 (max k4 k5))) + 50, ?_⟩
  have hK : max k1 (max k2 (max k3 (max k4 k5))) + 50 = (max k1 (max k2 (max k3 (max k4 k5))) + 49) + 1 := rfl
  have q1 := e1 (max k1 (max k2 (max k3 (max k4 k5))) + 50) (by omega)
  have q2 := e2 (max k1 (max k2 (max k3 (max k4 k5))) + 50) (by omega)
  have q3 := e3 (max k1 (max k2 (max k3 (max k4 k5))) + 50) (by omega)
  have q4 := e4 (max k1 (max k2 (max k3 (max k4 k5))) + 49) (by omega)
  have q5 := e5 (max k1 (max k2 (max k3 (max k4 k5))) + 50) (by omega)
  have q6 := eu (max k1 (max k2 (max k3 (max k4 k5))) + 50) (by omega)
  rw [hK] at *
  generalize max k1 (max k2 (max k3 (max k4 k5))) + 49 = K at *
  dsimp only at q1 q2 q3 q4 q5 q6
  have r1 : impl_RunPolicy.f (K + 1) rows ms us = some ((List.range us.length).map (hitA rows ms us), stt rows ms us us.length, true) := by
    unfold impl_RunPolicy.f
    rw [hv, Option.bind_some, if_pos rfl, hvu, Option.bind_some, if_pos rfl, q2, Option.bind_some]
  have r2 : impl_MissesOf.f (K + 1) rows ms us = some ((us.length : Int) - ((List.range us.length).map (hitA rows ms us)).sum, true) := by
    unfold impl_MissesOf.f
    rw [hv, Option.bind_some, if_pos rfl, hvu, Option.bind_some, if_pos rfl, q3, Option.bind_some]
  have r3 : impl_EvictedBy.f (K + 1) rows ms us = some ((List.range us.length).map (oldA rows ms us), true) := by
    unfold impl_EvictedBy.f
    rw [hv, Option.bind_some, if_pos rfl, hvu, Option.bind_some, if_pos rfl, q2, Option.bind_some]
  have r4 : impl_EmptyContents.f rows ms = some (List.replicate ms.length (-1), true) := by
    unfold impl_EmptyContents.f
    rw [hv, Option.bind_some, if_pos rfl, hem, Option.bind_some]
  unfold laws_FnSteps.f laws_b10Long.f
  rw [if_neg hlong, Option.bind_some, decide_eq_false hlong1, if_neg (by decide), q1, Option.bind_some]
  dsimp only
  rw [q6, Option.bind_some, r1, Option.bind_some, r2, Option.bind_some, r3, Option.bind_some, r4, Option.bind_some]
  dsimp only
  rw [if_pos rfl, if_pos rfl, if_pos rfl, if_pos rfl, if_pos (by omega), if_pos (by omega), if_pos (by simp), q5, Option.bind_some, w64 (by omega) (by omega)]
  simp only [laws_FnSteps.j0]
  rw [if_neg (by simp)]
  exact q4
end Go.Proofs.Ytndiplmpolkneaa.Pure
