/- The plain law of FnKnown: what the printed functions compute answers true for all lists of bytes, whatever their lengths; no condition beyond those that the row itself gives. -/
import Derived.Test.YtndiplmpolkneaaKx7
import Derived.Laws.Bits64b
namespace Go.Proofs.Ytndiplmpolkneaa.Pure
open Go Go.RowKit Go.Proofs.Ytndiplmpolkneaa.K Go.Proofs.YtndiplmpolkneaaW.PrintWords Go.Proofs.YtndiplmpolkneaaW.PrintLast
set_option linter.unusedVariables false
set_option linter.unusedSimpArgs false
/-! ### The source of numbers -/
theorem byteOf {l : List Int} (h : ∀ x ∈ l, (Lit.int .u8 x).wf = true) : ∀ x ∈ l, 0 ≤ x ∧ x < 256 := by
  intro x hx
  have := h x hx
  simp [Lit.wf, IntKind.min, IntKind.max, IntKind.signed, IntKind.bits] at this
  omega
theorem rd_byte {l : List Int} (h : ∀ x ∈ l, 0 ≤ x ∧ x < 256) (i : Int) : 0 ≤ rd l i ∧ rd l i < 256 := by
  unfold rd
  rw [List.getD_eq_getElem?_getD]
  cases hg : l[i.toNat]? with
  | none => simp
  | some v => exact h v (List.mem_of_getElem? hg)
theorem and255 (x : Int) (h0 : 0 ≤ x) (h1 : x < 18446744073709551616) : 0 ≤ Go.bits .and .u64 x 255 ∧ Go.bits .and .u64 x 255 < 256 := by
  have h := bits_and_u64_nat x.toNat 255 (by omega) (by omega)
  rw [show ((x.toNat : Nat) : Int) = x from by omega] at h
  have h2 : (x.toNat &&& 255 : Nat) ≤ 255 := Nat.and_le_right
  rw [show ((255 : Nat) : Int) = 255 from rfl] at h
  rw [h]
  omega
theorem u64w (x : Int) : 0 ≤ IntKind.u64.wrap x ∧ IntKind.u64.wrap x < 18446744073709551616 := by
  rw [IntKind.wrap_u64]
  omega
theorem next_ok (l : List Int) (hl : l.length ≤ 140737488351232) (hb : ∀ x ∈ l, 0 ≤ x ∧ x < 256) (p q : Int) (hp : 0 ≤ p) (hp' : p < 4611686018427387904) :
    ∃ v q', spec_l00Src_next.f l p q = some (v, p + 1, q') ∧ 0 ≤ v ∧ v < 256 := by
  have hw : wrap64 (p + 1) = p + 1 := by unfold wrap64; omega
  have hr := rd_byte hb p
  have hwr : wrap64 (rd l p) = rd l p := by unfold wrap64; omega
  have key : ∀ X : Int, 0 ≤ wrap64 (Go.bits .and .u64 ((IntKind.u64.wrap X) / 1099511627776) 255) ∧ wrap64 (Go.bits .and .u64 ((IntKind.u64.wrap X) / 1099511627776) 255) < 256 := by
    intro X
    have h1 := u64w X
    have h2 := and255 ((IntKind.u64.wrap X) / 1099511627776) (by omega) (by omega)
    generalize Go.bits .and .u64 ((IntKind.u64.wrap X) / 1099511627776) 255 = y at h2 ⊢
    unfold wrap64
    omega
  unfold spec_l00Src_next.f
  rw [hw]
  by_cases h1 : p < (l.length : Int)
  · rw [if_pos h1, if_pos hp, if_pos (by omega), hwr]
    exact ⟨_, _, rfl, hr.1, hr.2⟩
  · rw [if_neg h1]
    by_cases h2 : p + 1 ≤ (l.length : Int)
    · omega
    · rw [if_neg h2]
      exact ⟨_, _, rfl, (key _).1, (key _).2⟩
theorem tmod_ok (v n : Int) (hv : 0 ≤ v) (hn : 0 < n) : 0 ≤ Int.tmod v n ∧ Int.tmod v n < n :=
  ⟨Int.tmod_nonneg n hv, Int.tmod_lt_of_pos v hn⟩
theorem pick_ok (l : List Int) (hl : l.length ≤ 140737488351232) (hb : ∀ x ∈ l, 0 ≤ x ∧ x < 256) (p q n : Int) (hp : 0 ≤ p) (hp' : p < 4611686018427387000) (hn : 1 ≤ n) :
    ∃ v p' q', spec_l00Src_pick.f l p q n = some (v, p', q') ∧ 0 ≤ v ∧ v < n ∧ p ≤ p' ∧ p' ≤ p + 2 := by
  unfold spec_l00Src_pick.f
  by_cases h1 : n ≤ 1
  · rw [if_pos h1]
    exact ⟨0, p, q, rfl, by omega, by omega, by omega, by omega⟩
  · rw [if_neg h1]
    obtain ⟨v, q1, e1, hv0, hv1⟩ := next_ok l hl hb p q hp (by omega)
    rw [e1, Option.bind_some]
    by_cases h2 : n > 200
    · rw [if_pos h2]
      obtain ⟨v2, q2, e2, hw0, hw1⟩ := next_ok l hl hb (p + 1) q1 (by omega) (by omega)
      dsimp only
      rw [e2, Option.bind_some, if_neg (by omega)]
      dsimp only
      obtain ⟨h3, h4⟩ := tmod_ok (wrap64 (wrap64 (v * 256) + v2)) n (by unfold wrap64; omega) (by omega)
      exact ⟨_, _, _, rfl, h3, h4, by omega, by omega⟩
    · rw [if_neg h2, if_neg (by omega)]
      obtain ⟨h3, h4⟩ := tmod_ok v n hv0 (by omega)
      exact ⟨_, _, _, rfl, h3, h4, by dsimp only; omega, by dsimp only; omega⟩
/-! ### Lists -/
theorem w64 {x : Int} (h0 : -9223372036854775808 ≤ x) (h1 : x < 9223372036854775808) : wrap64 x = x := by unfold wrap64; omega
theorem rd_get {l : List Int} {i : Nat} (h : i < l.length) : rd l (i : Int) = l[i] := by
  unfold rd
  simp [List.getD_eq_getElem?_getD, h]
theorem rd_nat (l : List Int) (i : Nat) : rd l (i : Int) = l.getD i 0 := by unfold rd; simp
theorem B10Uses_loop (l : List Int) (hl : l.length ≤ 140737488351232) (hb : ∀ x ∈ l, 0 ≤ x ∧ x < 256) (m : Int) (hm : 1 ≤ m) (hm' : m ≤ 64) : ∀ (d : Nat) (acc : List Int) (p q : Int) (k : Nat), d ≤ 30 → 0 ≤ p → p + 2 * d < 1000 → acc.length + d ≤ 60 → (∀ x ∈ acc, 0 ≤ x ∧ x < m) → d < k →
    ∃ r, spec_B10Uses.l0 k acc m d l p q = some r ∧ r.length = acc.length + d ∧ ∀ x ∈ r, 0 ≤ x ∧ x < m := by
  intro d
  induction d with
  | zero =>
    intro acc p q k _ _ _ _ ha hk
    obtain ⟨k, rfl⟩ : ∃ j, k = j + 1 := ⟨k - 1, by omega⟩
    refine ⟨acc, ?_, by simp, ha⟩
    simp only [spec_B10Uses.l0]
    rw [if_neg (by simp)]
  | succ d ih =>
    intro acc p q k h1 h2 h3 h4 ha hk
    obtain ⟨k, rfl⟩ : ∃ j, k = j + 1 := ⟨k - 1, by omega⟩
    obtain ⟨v, p', q', e, hv0, hv1, hp0, hp1⟩ := pick_ok l hl hb p q m h2 (by omega) hm
    simp only [spec_B10Uses.l0]
    rw [if_pos (by omega), e, Option.bind_some]
    dsimp only
    rw [if_pos (by omega), w64 (by omega) (by omega), show ((d + 1 : Nat) : Int) - 1 = (d : Int) from by omega]
    obtain ⟨r, hr, hlen, hall⟩ := ih (acc ++ [v]) p' q' k (by omega) (by omega) (by omega) (by simp; omega) (by
      intro x hx
      rcases List.mem_append.1 hx with hx | hx
      · exact ha x hx
      · obtain rfl := List.mem_singleton.1 hx; exact ⟨hv0, hv1⟩) (by omega)
    exact ⟨r, hr, by rw [hlen]; simp; omega, hall⟩
theorem B10Uses_ok (l : List Int) (hl : l.length ≤ 140737488351232) (hb : ∀ x ∈ l, 0 ≤ x ∧ x < 256) (k : Nat) (hk : 40 ≤ k) :
    ∃ r, spec_B10Uses.f k l = some r ∧ r.length ≤ 30 ∧ ∀ x ∈ r, 0 ≤ x ∧ x < 64 := by
  unfold spec_B10Uses.f spec_l00From.f
  rw [Option.bind_some]
  obtain ⟨a, p1, q1, e1, ha0, ha1, hp0, hp1⟩ := pick_ok l hl hb 0 0 7 (by omega) (by omega) (by omega)
  dsimp only
  rw [e1, Option.bind_some]
  obtain ⟨n, p2, q2, e2, hn0, hn1, hp2, hp3⟩ := pick_ok l hl hb p1 q1 30 (by omega) (by omega) (by omega)
  dsimp only
  rw [e2, Option.bind_some]
  dsimp only
  rw [w64 (by omega) (by omega)]
  obtain ⟨r, hr, hlen, hall⟩ := B10Uses_loop l hl hb (2 + a) (by omega) (by omega) n.toNat [] p2 q2 k (by omega) (by omega) (by omega) (by simp; omega) (by simp) (by omega)
  rw [show ((n.toNat : Nat) : Int) = n from by omega] at hr
  refine ⟨r, hr, by rw [hlen]; simp; omega, fun x hx => ?_⟩
  have := hall x hx
  omega
theorem b10At_ok (l : List Int) (hb : ∀ x ∈ l, 0 ≤ x ∧ x < 256) : ∃ t, laws_b10At.f l 0 6 = some t ∧ 0 ≤ t ∧ t < 6 := by
  have hr := rd_byte hb 0
  unfold laws_b10At.f
  rw [if_neg (by omega)]
  by_cases h : (0 : Int) < (l.length : Int)
  · rw [if_pos h, if_pos (by omega), if_neg (by omega), w64 (by omega) (by omega)]
    have := tmod_ok (rd l 0) 6 hr.1 (by omega)
    exact ⟨_, rfl, this.1, this.2⟩
  · rw [if_neg h, if_neg (by omega)]
    have := tmod_ok (wrap64 (wrap64 (0 * 37) + 11)) 6 (by unfold wrap64; omega) (by omega)
    exact ⟨_, rfl, this.1, this.2⟩
theorem index_loop (l : List Int) (a : Int) (hl : l.length < 1000000) : ∀ (d i k : Nat), l.length - i = d → i ≤ l.length → d < k → (∀ j, j < i → rd l (j : Int) ≠ a) →
    (∃ j, j < l.length ∧ rd l (j : Int) = a ∧ slices_Index_int64_int64.l0 k l a l.length i = some (j : Int)) ∨ ((∀ j, j < l.length → rd l (j : Int) ≠ a) ∧ slices_Index_int64_int64.l0 k l a l.length i = some (-1)) := by
  intro d
  induction d with
  | zero =>
    intro i k hd hi hk hA
    obtain ⟨k, rfl⟩ : ∃ j, k = j + 1 := ⟨k - 1, by omega⟩
    simp only [slices_Index_int64_int64.l0]
    rw [if_neg (by omega)]
    exact .inr ⟨fun j hj => hA j (by omega), rfl⟩
  | succ d ih =>
    intro i k hd hi hk hA
    obtain ⟨k, rfl⟩ : ∃ j, k = j + 1 := ⟨k - 1, by omega⟩
    simp only [slices_Index_int64_int64.l0]
    rw [if_pos (by omega), if_pos (by omega), if_pos (by omega)]
    by_cases hx : a = rd l (i : Int)
    · rw [if_pos hx]
      exact .inl ⟨i, by omega, hx.symm, rfl⟩
    · rw [if_neg hx, w64 (by omega) (by omega), show (i : Int) + 1 = ((i + 1 : Nat) : Int) from by omega]
      refine ih (i + 1) k (by omega) (by omega) (by omega) (fun j hj => ?_)
      by_cases e : j = i
      · subst e; exact fun h => hx h.symm
      · exact hA j (by omega)
theorem index_ok (l : List Int) (a : Int) (hl : l.length < 1000000) (k : Nat) (hk : l.length < k) :
    (∃ j, j < l.length ∧ rd l (j : Int) = a ∧ slices_Index_int64_int64.f k l a = some (j : Int)) ∨ ((∀ j, j < l.length → rd l (j : Int) ≠ a) ∧ slices_Index_int64_int64.f k l a = some (-1)) :=
  index_loop l a hl l.length 0 k (by omega) (by omega) hk (by simp)
theorem permuted_loop (c ages : List Int) (hc : c.length < 1000000) (ha : ages.length < 1000000) (hr : ∀ i, i < ages.length → 0 ≤ rd ages (i : Int) ∧ rd ages (i : Int) < c.length) : ∀ (d i k : Nat), ages.length - i = d → i ≤ ages.length → d < k →
    impl_permuted.l0 k c ((ages.take i).map (rd c)) ages ages.length i = some (ages.map (rd c)) := by
  intro d
  induction d with
  | zero =>
    intro i k hd hi hk
    obtain ⟨k, rfl⟩ : ∃ j, k = j + 1 := ⟨k - 1, by omega⟩
    simp only [impl_permuted.l0]
    rw [if_neg (by omega), List.take_of_length_le (by omega)]
  | succ d ih =>
    intro i k hd hi hk
    obtain ⟨k, rfl⟩ : ∃ j, k = j + 1 := ⟨k - 1, by omega⟩
    have hi' : i < ages.length := by omega
    have h := hr i hi'
    simp only [impl_permuted.l0]
    rw [if_pos (by omega), if_pos (by omega), if_pos (by omega), if_pos h.1, if_pos h.2, if_pos (by simp; omega), w64 (by omega) (by omega), show (i : Int) + 1 = ((i + 1 : Nat) : Int) from by omega]
    have e : (ages.take i).map (rd c) ++ [rd c (rd ages (i : Int))] = (ages.take (i + 1)).map (rd c) := by
      rw [List.take_succ_eq_append_getElem hi', List.map_append, rd_get hi']; rfl
    rw [e]
    exact ih (i + 1) k (by omega) (by omega) (by omega)
theorem permuted_ok (c ages : List Int) (hc : c.length < 1000000) (ha : ages.length < 1000000) (hr : ∀ x ∈ ages, 0 ≤ x ∧ x < c.length) (k : Nat) (hk : ages.length < k) : impl_permuted.f k c ages = some (ages.map (rd c)) :=
  permuted_loop c ages hc ha (fun i hi => by rw [rd_get hi]; exact hr _ (List.getElem_mem _)) ages.length 0 k (by omega) (by omega) hk
theorem has_loop (l : List Int) (a : Int) (hl : l.length < 1000000) : ∀ (d i k : Nat), l.length - i = d → i ≤ l.length → d < k → a ∉ l.take i → laws_b10Has.l0 k l a i = some (decide (a ∈ l)) := by
  intro d
  induction d with
  | zero =>
    intro i k hd hi hk hA
    obtain ⟨k, rfl⟩ : ∃ j, k = j + 1 := ⟨k - 1, by omega⟩
    simp only [laws_b10Has.l0]
    rw [List.take_of_length_le (by omega)] at hA
    rw [if_neg (by omega), decide_eq_false hA]
  | succ d ih =>
    intro i k hd hi hk hA
    obtain ⟨k, rfl⟩ : ∃ j, k = j + 1 := ⟨k - 1, by omega⟩
    have hi' : i < l.length := by omega
    simp only [laws_b10Has.l0]
    rw [if_pos (by omega), if_pos (by omega), rd_get hi']
    by_cases hx : l[i] = a
    · rw [if_pos hx, decide_eq_true (by rw [← hx]; exact List.getElem_mem _)]
    · rw [if_neg hx, w64 (by omega) (by omega), show (i : Int) + 1 = ((i + 1 : Nat) : Int) from by omega]
      refine ih (i + 1) k (by omega) (by omega) (by omega) ?_
      rw [List.take_succ_eq_append_getElem hi', List.mem_append, List.mem_singleton]
      rintro (h | h)
      · exact hA h
      · exact hx h.symm
theorem has_ok (l : List Int) (a : Int) (hl : l.length < 1000000) (k : Nat) (hk : l.length < k) : laws_b10Has.f k l a = some (decide (a ∈ l)) :=
  has_loop l a hl l.length 0 k (by omega) (by omega) hk (by simp)
theorem nums_loop (l : List Int) (hl : l.length < 1000000) : ∀ (d i k : Nat), l.length - i = d → i ≤ l.length → d < k → laws_b10Nums.l0 k l l i = some true := by
  intro d
  induction d with
  | zero =>
    intro i k hd hi hk
    obtain ⟨k, rfl⟩ : ∃ j, k = j + 1 := ⟨k - 1, by omega⟩
    simp only [laws_b10Nums.l0]
    rw [if_neg (by omega)]
  | succ d ih =>
    intro i k hd hi hk
    obtain ⟨k, rfl⟩ : ∃ j, k = j + 1 := ⟨k - 1, by omega⟩
    simp only [laws_b10Nums.l0]
    rw [if_pos (by omega), if_pos (by omega), if_pos (by omega), if_pos True.intro, w64 (by omega) (by omega), show (i : Int) + 1 = ((i + 1 : Nat) : Int) from by omega]
    exact ih (i + 1) k (by omega) (by omega) (by omega)
theorem nums_ok (l : List Int) (hl : l.length < 1000000) (k : Nat) (hk : l.length < k) : laws_b10Nums.f k l l = some true := by
  unfold laws_b10Nums.f
  rw [if_pos rfl]
  exact nums_loop l hl l.length 0 k (by omega) (by omega) hk
/-! ### The two policies -/
theorem map_rd_range (c : List Int) : ∀ n, n ≤ c.length → (asc (n : Int)).map (rd c) = c.take n := by
  intro n hn
  unfold asc
  rw [Int.toNat_natCast, List.map_map]
  apply List.ext_getElem
  · simp; omega
  · intro i h1 h2
    simp only [List.length_map, List.length_range] at h1
    simp [rd, List.getD_eq_getElem?_getD, show i < c.length by omega]
theorem asc_take (n i : Nat) (h : i ≤ n) : (asc (n : Int)).take i = asc (i : Int) := by
  unfold asc
  simp [List.take_range, Nat.min_eq_left h, ← List.map_take]
theorem map_rd_drop (c : List Int) (n i : Nat) (hn : n = c.length) : ((asc (n : Int)).drop i).map (rd c) = c.drop i := by
  rw [List.map_drop, map_rd_range c n (by omega), hn, List.take_length]
theorem map_mvd (c : List Int) (n i : Nat) (hn : n = c.length) (hi : i < n) : (mvd n i).map (rd c) = rd c i :: c.eraseIdx i := by
  unfold mvd
  rw [List.map_cons, List.map_append, List.map_take, map_rd_range c n (by omega), map_rd_drop c n _ hn, hn, List.take_length, List.eraseIdx_eq_take_drop_succ]
theorem asc_mem {n : Nat} {x : Int} (h : x ∈ asc (n : Int)) : 0 ≤ x ∧ x < n := by
  unfold asc at h
  simp at h
  obtain ⟨a, ha, rfl⟩ := h
  omega
theorem mvd_mem {n i : Nat} {x : Int} (hi : i < n) (h : x ∈ mvd n i) : 0 ≤ x ∧ x < n := by
  unfold mvd at h
  rcases List.mem_cons.1 h with rfl | h
  · omega
  · rcases List.mem_append.1 h with h | h
    · exact asc_mem (List.mem_of_mem_take h)
    · exact asc_mem (List.mem_of_mem_drop h)
theorem mvd_length (n i : Nat) (hi : i < n) : (mvd n i).length = n := by
  unfold mvd
  simp [asc_length]
  omega
theorem asc_sorted (n : Int) : (asc n).Pairwise fun a b => decide (a ≤ b) = true := by
  unfold asc
  rw [List.pairwise_map]
  exact List.pairwise_lt_range.imp (fun {a b} h => by simp; omega)
theorem srt_of_perm {l : List Int} {n : Int} (h : l.Perm (asc n)) : srt l = asc n := by
  refine List.Perm.eq_of_pairwise (le := fun a b => decide (a ≤ b) = true) ?_ ?_ (asc_sorted n) ((List.mergeSort_perm _ _).trans h)
  · intro a b _ _ h1 h2; simp at h1 h2; omega
  · exact List.pairwise_mergeSort (by intro a b c h1 h2; simp at *; omega) (by intro a b; simp; omega) l
theorem isOrd_of_perm {l : List Int} {n : Nat} (h : l.Perm (asc n)) : isOrd n l = true := by
  unfold isOrd
  rw [srt_of_perm h, h.length_eq, asc_length]
  simp
theorem mvd_perm (n i : Nat) (hi : i < n) : (mvd n i).Perm (asc n) := by
  have hl : i < (asc (n : Int)).length := by rw [asc_length]; omega
  have hg : (asc (n : Int))[i] = (i : Int) := by simp [asc]
  have h := List.perm_middle (a := (i : Int)) (l₁ := (asc n).take i) (l₂ := (asc n).drop (i + 1))
  unfold mvd
  refine h.symm.trans ?_
  rw [← hg, List.getElem_cons_drop, List.take_append_drop]
theorem valid_of (n : Nat) (h1 : 1 ≤ n) (h2 : n ≤ 6) (rows : List (List Int)) (ms : List Int) (hl : rows.length = n) (hr : ∀ x ∈ rows, x.Perm (asc n)) (hm : ms.Perm (asc n)) : impl_ValidPolicy.f rows ms = some true := by
  have hml : ms.length = n := by rw [hm.length_eq, asc_length]; omega
  unfold impl_ValidPolicy.f
  rw [hml, if_pos ⟨by omega, List.all_eq_true.2 fun x hx => by have := (hr x hx).length_eq; rw [asc_length] at this; simp; omega⟩]
  congr 1
  rw [isOrd_of_perm hm, show rows.all (isOrd n) = true from List.all_eq_true.2 fun x hx => isOrd_of_perm (hr x hx)]
  simp [inR, hl]
  omega
theorem lru_valid (n : Nat) (h1 : 1 ≤ n) (h2 : n ≤ 6) : impl_ValidPolicy.f ((List.range n).map (mvd n)) (mvd n (n - 1)) = some true :=
  valid_of n h1 h2 _ _ (by simp) (fun x hx => by
    obtain ⟨i, hi, rfl⟩ := List.mem_map.1 hx
    exact mvd_perm n i (List.mem_range.1 hi)) (mvd_perm n _ (by omega))
theorem fifo_valid (n : Nat) (h1 : 1 ≤ n) (h2 : n ≤ 6) : impl_ValidPolicy.f ((List.range n).map (fun _ => asc n)) (mvd n (n - 1)) = some true :=
  valid_of n h1 h2 _ _ (by simp) (fun x hx => by
    obtain ⟨i, hi, rfl⟩ := List.mem_map.1 hx
    exact List.Perm.refl _) (mvd_perm n _ (by omega))
theorem empty_ok (rows : List (List Int)) (ms : List Int) (h : ms.length ≤ 6) : impl_Policy_empty.f rows ms = some (List.replicate ms.length (-1)) := by
  unfold impl_Policy_empty.f slices_Repeat_int64_int64.f
  rw [if_pos ⟨rfl, by omega, by omega⟩]
  simp
theorem uses_ok (us : List Int) (h1 : us.length ≤ 60) (h2 : ∀ x ∈ us, 0 ≤ x ∧ x < 64) : impl_ValidUses.f us = some true := by
  unfold impl_ValidUses.f impl_allIn.f
  rw [if_pos (by omega), Option.bind_some]
  congr 1
  rw [List.all_eq_true]
  intro x hx
  have := h2 x hx
  simp [inR]
  omega
/-- What a miss makes of contents: the address ahead, the last one gone. -/
theorem miss_map (c : List Int) (n : Nat) (a : Int) (hn : n = c.length) (h1 : 1 ≤ n) : (mvd n (n - 1)).map (rd (c.set (n - 1) a)) = a :: c.take (n - 1) := by
  rw [map_mvd _ n (n - 1) (by simp [hn]) (by omega), rd_get (by simp; omega)]
  congr 1
  · simp
  · rw [List.eraseIdx_eq_take_drop_succ, List.drop_of_length_le (by simp; omega), List.append_nil, List.take_set_of_le (by omega)]
theorem step_miss (rows : List (List Int)) (n : Nat) (c : List Int) (a : Int) (hn : n = c.length) (h1 : 1 ≤ n) (h2 : n ≤ 6) (k : Nat) (hk : 10 ≤ k) (hA : ∀ j, j < c.length → rd c (j : Int) ≠ a) :
    ∃ o, impl_Policy_step.f k rows (mvd n (n - 1)) c a = some (a :: c.take (n - 1), o, false) := by
  unfold impl_Policy_step.f
  rcases index_ok c a (by omega) k (by omega) with ⟨j, hj, hja, e⟩ | ⟨_, e⟩
  · exact absurd hja (hA j hj)
  · rw [e, Option.bind_some, if_neg (by omega)]
    unfold slices_Clone_int64_int64.f
    rw [if_pos (by omega), Option.bind_some, w64 (by omega) (by omega), if_pos (by omega), if_pos (by omega), show ((c.length : Int) - 1).toNat = n - 1 from by omega,
      permuted_ok _ _ (by simp; omega) (by rw [mvd_length _ _ (by omega)]; omega) (fun x hx => by have := mvd_mem (by omega) hx; simp; omega) k (by rw [mvd_length _ _ (by omega)]; omega), Option.bind_some, miss_map c n a hn h1]
    exact ⟨_, rfl⟩
theorem step_hit (rows : List (List Int)) (ms : List Int) (n j : Nat) (c : List Int) (a : Int) (hn : n = c.length) (h2 : n ≤ 6) (hrl : rows.length = n) (k : Nat) (hk : 10 ≤ k)
    (hm : ∀ i, i < n → ((rows.getD i []).length ≤ 6 ∧ ∀ x ∈ rows.getD i [], 0 ≤ x ∧ x < n)) (hj : j < c.length) (hja : rd c (j : Int) = a) :
    ∃ i, i < c.length ∧ rd c (i : Int) = a ∧ impl_Policy_step.f k rows ms c a = some ((rows.getD i []).map (rd c), -1, true) := by
  unfold impl_Policy_step.f
  rcases index_ok c a (by omega) k (by omega) with ⟨i, hi, hia, e⟩ | ⟨hA, _⟩
  · refine ⟨i, hi, hia, ?_⟩
    rw [e, Option.bind_some, if_pos (by omega), if_pos (by omega), if_pos (by omega)]
    have er : rd_L2 rows (i : Int) = rows.getD i [] := by unfold rd_L2; simp
    have hmi := hm i (by omega)
    rw [er, permuted_ok _ _ (by omega) (by omega) (fun x hx => by have := hmi.2 x hx; omega) k (by omega), Option.bind_some]
  · exact absurd hja (hA j hj)
/-! ### What the contents hold -/
/-- A list cut to n elements, or filled with -1 up to n. -/
def padn (n : Nat) (l : List Int) : List Int := l.take n ++ List.replicate (n - l.length) (-1)
theorem padn_length (n : Nat) (l : List Int) : (padn n l).length = n := by unfold padn; simp; omega
theorem padn_take (n : Nat) (T : List Int) : (padn n T).take (n - 1) = T.take (n - 1) ++ List.replicate (n - 1 - T.length) (-1) := by
  unfold padn
  rw [List.take_append, List.take_take, List.take_replicate, List.length_take]
  congr 1
  · congr 1; omega
  · congr 1; omega
theorem padn_cons (n : Nat) (h1 : 1 ≤ n) (a : Int) (T : List Int) : padn n (a :: T) = a :: (T.take (n - 1) ++ List.replicate (n - 1 - T.length) (-1)) := by
  unfold padn
  obtain ⟨m, rfl⟩ : ∃ m, n = m + 1 := ⟨n - 1, by omega⟩
  simp
theorem padn_rd {n : Nat} {T : List Int} {a : Int} (ha : 0 ≤ a) {j : Nat} (hj : j < n) (h : rd (padn n T) (j : Int) = a) : j < (T.take n).length ∧ (T.take n)[j]? = some a := by
  rw [rd_get (by rw [padn_length]; exact hj)] at h
  unfold padn at h
  by_cases hl : j < (T.take n).length
  · rw [List.getElem_append_left hl] at h
    exact ⟨hl, by rw [List.getElem?_eq_getElem hl, h]⟩
  · rw [List.getElem_append_right (by omega), List.getElem_replicate] at h
    omega
theorem padn_mem {n : Nat} {T : List Int} {a : Int} (h : a ∈ T.take n) : ∃ j, j < (padn n T).length ∧ rd (padn n T) (j : Int) = a := by
  obtain ⟨j, hj, rfl⟩ := List.mem_iff_getElem.1 h
  refine ⟨j, by unfold padn; simp at hj ⊢; omega, ?_⟩
  rw [rd_get (by unfold padn; simp at hj ⊢; omega)]
  unfold padn
  rw [List.getElem_append_left hj]
/-- The different addresses of uses (the latest first), the latest first. -/
def dis : List Int → List Int
  | [] => []
  | a :: r => a :: (dis r).filter (· != a)
theorem dis_cons (a : Int) (r : List Int) : dis (a :: r) = a :: (dis r).filter (· != a) := rfl
theorem dis_nodup : ∀ r, (dis r).Nodup
  | [] => List.nodup_nil
  | a :: r => by
    unfold dis
    rw [List.nodup_cons]
    exact ⟨by simp, (dis_nodup r).filter _⟩
theorem dis_mem : ∀ (r : List Int) (x : Int), x ∈ dis r → x ∈ r
  | [], _, h => by simp [dis] at h
  | a :: r, x, h => by
    unfold dis at h
    rcases List.mem_cons.1 h with rfl | h
    · exact List.mem_cons_self
    · exact List.mem_cons_of_mem _ (dis_mem r x (List.mem_filter.1 h).1)
theorem erase_nodup : ∀ (T : List Int) (j : Nat) (a : Int), T.Nodup → T[j]? = some a → T.eraseIdx j = T.filter (· != a)
  | [], _, _, _, h => by simp at h
  | b :: T, 0, a, hn, h => by
    obtain rfl : b = a := by simpa using h
    rw [List.nodup_cons] at hn
    rw [List.eraseIdx_cons_zero, List.filter_cons_of_neg (by simp)]
    symm
    rw [List.filter_eq_self]
    intro x hx
    have : x ≠ b := fun e => hn.1 (e ▸ hx)
    simpa using this
  | b :: T, j + 1, a, hn, h => by
    rw [List.nodup_cons] at hn
    have hT : T[j]? = some a := by simpa using h
    have hba : b ≠ a := fun e => hn.1 (e ▸ List.mem_of_getElem? hT)
    rw [List.eraseIdx_cons_succ, List.filter_cons_of_pos (by simpa using hba), erase_nodup T j a hn.2 hT]
theorem take_erase (T : List Int) (n j : Nat) (hj : j < n) : (T.eraseIdx j).take (n - 1) = (T.take n).eraseIdx j := by
  rw [List.eraseIdx_eq_take_drop_succ, List.eraseIdx_eq_take_drop_succ, List.take_take, Nat.min_eq_left (by omega), List.drop_take]
  by_cases h : j < T.length
  · rw [List.take_append, List.take_take, Nat.min_eq_right (by omega), List.length_take, Nat.min_eq_left (by omega), show n - 1 - j = n - (j + 1) from by omega]
  · rw [List.drop_of_length_le (by omega), List.take_nil, List.append_nil, List.take_take, Nat.min_eq_right (by omega)]
/-- A step of the policy that replaces what has not been used for longest. -/
theorem lru_step (n : Nat) (h1 : 1 ≤ n) (h2 : n ≤ 6) (T : List Int) (hn : T.Nodup) (a : Int) (ha : 0 ≤ a) (k : Nat) (hk : 10 ≤ k) :
    ∃ o, impl_Policy_step.f k ((List.range n).map (mvd n)) (mvd n (n - 1)) (padn n T) a = some (padn n (a :: T.filter (· != a)), o, decide (a ∈ T.take n)) := by
  have hl := padn_length n T
  by_cases hm : a ∈ T.take n
  · obtain ⟨j0, hj0, hj1⟩ := padn_mem hm
    obtain ⟨i, hi, hia, e⟩ := step_hit ((List.range n).map (mvd n)) (mvd n (n - 1)) n j0 (padn n T) a hl.symm h2 (by simp) k hk (fun i hi => by
      have : ((List.range n).map (mvd n)).getD i [] = mvd n i := by simp [List.getD_eq_getElem?_getD, hi]
      rw [this]
      exact ⟨by rw [mvd_length n i hi]; omega, fun x hx => mvd_mem hi hx⟩) hj0 hj1
    rw [hl] at hi
    refine ⟨-1, ?_⟩
    rw [e, decide_eq_true hm]
    have er : ((List.range n).map (mvd n)).getD i [] = mvd n i := by simp [List.getD_eq_getElem?_getD, hi]
    obtain ⟨hi1, hi2⟩ := padn_rd ha hi hia
    have hTi : T[i]? = some a := by rw [List.getElem?_take_of_lt hi] at hi2; exact hi2
    have hiT : i < T.length := by simp at hi1; omega
    rw [er, map_mvd _ n i hl.symm hi, hia, padn_cons n h1]
    congr 3
    rw [← erase_nodup T i a hn hTi, take_erase T n i hi]
    unfold padn
    rw [List.eraseIdx_append_of_lt_length hi1, List.length_eraseIdx_of_lt hiT]
    congr 2
    omega
  · obtain ⟨o, e⟩ := step_miss ((List.range n).map (mvd n)) n (padn n T) a hl.symm h1 h2 k hk (fun j hj h => hm (by
      have hq := padn_rd ha (by omega) h
      exact List.mem_of_getElem? hq.2))
    refine ⟨o, ?_⟩
    rw [e, decide_eq_false hm, padn_cons n h1, padn_take]
    congr 3
    by_cases hT : a ∈ T
    · have hlen : n < T.length := by
        by_cases hlt : T.length ≤ n
        · rw [List.take_of_length_le hlt] at hm; exact absurd hT hm
        · omega
      have hf : T.filter (· != a) = T.take n ++ (T.drop n).filter (· != a) := by
        conv => lhs; rw [← List.take_append_drop n T]
        rw [List.filter_append]
        congr 1
        rw [List.filter_eq_self]
        intro x hx
        have : x ≠ a := fun e => hm (e ▸ hx)
        simpa using this
      rw [hf, List.take_append_of_le_length (by simp; omega), List.take_take, Nat.min_eq_left (by omega), List.length_append, List.length_take, Nat.min_eq_left (by omega),
        show n - 1 - T.length = 0 from by omega, show n - 1 - (n + ((T.drop n).filter (· != a)).length) = 0 from by omega]
    · have hf : T.filter (· != a) = T := by
        rw [List.filter_eq_self]
        intro x hx
        have : x ≠ a := fun e => hT (e ▸ hx)
        simpa using this
      rw [hf]
/-- A step of the policy that replaces what came first. -/
theorem fifo_step (n : Nat) (h1 : 1 ≤ n) (h2 : n ≤ 6) (T : List Int) (a : Int) (ha : 0 ≤ a) (k : Nat) (hk : 10 ≤ k) :
    ∃ o, impl_Policy_step.f k ((List.range n).map (fun _ => asc n)) (mvd n (n - 1)) (padn n T) a = some (padn n (if a ∈ T.take n then T else a :: T), o, decide (a ∈ T.take n)) := by
  have hl := padn_length n T
  by_cases hm : a ∈ T.take n
  · obtain ⟨j0, hj0, hj1⟩ := padn_mem hm
    obtain ⟨i, hi, hia, e⟩ := step_hit ((List.range n).map (fun _ => asc n)) (mvd n (n - 1)) n j0 (padn n T) a hl.symm h2 (by simp) k hk (fun i hi => by
      have : ((List.range n).map (fun _ => asc (n : Int))).getD i [] = asc n := by simp [List.getD_eq_getElem?_getD, hi]
      rw [this]
      exact ⟨by rw [asc_length]; omega, fun x hx => asc_mem hx⟩) hj0 hj1
    rw [hl] at hi
    refine ⟨-1, ?_⟩
    have er : ((List.range n).map (fun _ => asc (n : Int))).getD i [] = asc n := by simp [List.getD_eq_getElem?_getD, hi]
    rw [e, er, map_rd_range _ n (by omega), List.take_of_length_le (by omega), if_pos hm, decide_eq_true hm]
  · obtain ⟨o, e⟩ := step_miss ((List.range n).map (fun _ => asc n)) n (padn n T) a hl.symm h1 h2 k hk (fun j hj h => hm (by
      have hq := padn_rd ha (by omega) h
      exact List.mem_of_getElem? hq.2))
    refine ⟨o, ?_⟩
    rw [e, if_neg hm, decide_eq_false hm, padn_cons n h1, padn_take]
/-- The misses of uses (the latest first) under the policy that replaces what came first, the latest first. -/
def mss (n : Nat) : List Int → List Int
  | [] => []
  | a :: r => if a ∈ (mss n r).take n then mss n r else a :: mss n r
theorem mss_cons (n : Nat) (a : Int) (r : List Int) : mss n (a :: r) = if a ∈ (mss n r).take n then mss n r else a :: mss n r := rfl
theorem run_loop (rows : List (List Int)) (ms us : List Int) (hus : us.length ≤ 60) (St : Nat → List Int) (Hit : Nat → Bool)
    (hst : ∀ k i, 10 ≤ k → i < us.length → ∃ o, impl_Policy_step.f k rows ms (St i) (rd us (i : Int)) = some (St (i + 1), o, Hit i)) :
    ∀ (d i k : Nat) (rp : List Int), us.length - i = d → i ≤ us.length → d + 10 < k → rp.length = i →
    ∃ r, impl_Policy_run.l0 k (St i) ((List.range i).map fun j => if Hit j then 1 else 0) rp us us.length i rows ms = some (((List.range us.length).map fun j => if Hit j then 1 else 0), r, St us.length) ∧ r.length = us.length := by
  intro d
  induction d with
  | zero =>
    intro i k rp hd hi hk hrp
    obtain ⟨k, rfl⟩ : ∃ j, k = j + 1 := ⟨k - 1, by omega⟩
    obtain rfl : i = us.length := by omega
    simp only [impl_Policy_run.l0]
    rw [if_neg (by omega)]
    exact ⟨_, rfl, hrp⟩
  | succ d ih =>
    intro i k rp hd hi hk hrp
    obtain ⟨k, rfl⟩ : ∃ j, k = j + 1 := ⟨k - 1, by omega⟩
    have hi' : i < us.length := by omega
    obtain ⟨o, e⟩ := hst k i (by omega) hi'
    simp only [impl_Policy_run.l0]
    rw [if_pos (by omega), if_pos (by omega), if_pos (by omega), e, Option.bind_some]
    dsimp only
    have hr : (List.range (i + 1)).map (fun j => if Hit j = true then (1 : Int) else 0) = (List.range i).map (fun j => if Hit j = true then (1 : Int) else 0) ++ [if Hit i = true then 1 else 0] := by
      rw [List.range_succ, List.map_append]; rfl
    obtain ⟨r, h1, h2⟩ := ih (i + 1) k (rp ++ [o]) (by omega) (by omega) (by omega) (by simp [hrp])
    rw [hr, show ((i + 1 : Nat) : Int) = (i : Int) + 1 from by omega] at h1
    have hl8 : ((List.range i).map (fun j => if Hit j = true then (1 : Int) else 0)).length < 17592186044416 := by simp; omega
    have hl9 : rp.length < 17592186044416 := by omega
    rw [w64 (by omega) (by omega)]
    refine ⟨r, ?_, h2⟩
    cases hh : Hit i with
    | true =>
      rw [hh, if_pos rfl] at h1
      rw [if_pos rfl, if_pos hl8, if_pos hl9]
      exact h1
    | false =>
      rw [hh, if_neg (by simp)] at h1
      rw [if_neg (by simp), if_pos hl8, if_pos hl9]
      exact h1
/-! ### The law's own search from the end -/
def scanL (n : Nat) : List Int → List Int → List Int
  | acc, [] => acc
  | acc, a :: r => if a ∈ acc then scanL n acc r else if acc.length < n then scanL n (acc ++ [a]) r else scanL n acc r
def scanM (n : Nat) : List Int → List Int → List Int
  | acc, [] => acc
  | acc, a :: r => if a ∈ (mss n r).take n then scanM n acc r else if acc.length < n then scanM n (acc ++ [a]) r else scanM n acc r
theorem scanL_cons (n : Nat) (a : Int) (acc r : List Int) : scanL n acc (a :: r) = if a ∈ acc then scanL n acc r else if acc.length < n then scanL n (acc ++ [a]) r else scanL n acc r := rfl
theorem scanM_cons (n : Nat) (a : Int) (acc r : List Int) : scanM n acc (a :: r) = if a ∈ (mss n r).take n then scanM n acc r else if acc.length < n then scanM n (acc ++ [a]) r else scanM n acc r := rfl
theorem scanL_eq (n : Nat) : ∀ (r acc : List Int), acc.length ≤ n → scanL n acc r = (acc ++ (dis r).filter (fun x => !decide (x ∈ acc))).take n
  | [], acc, h => by
    unfold scanL dis
    simp [List.take_of_length_le h]
  | a :: r, acc, h => by
    rw [scanL_cons, dis_cons]
    by_cases hm : a ∈ acc
    · rw [if_pos hm, scanL_eq n r acc h]
      rw [List.filter_cons_of_neg (by simpa using hm), List.filter_filter]
      congr 3
      funext x
      by_cases hx : x ∈ acc
      · simp [hx]
      · have : x ≠ a := fun e => hx (e ▸ hm)
        simp [hx, this]
    · rw [if_neg hm]
      by_cases hl : acc.length < n
      · rw [if_pos hl, scanL_eq n r (acc ++ [a]) (by simp; omega)]
        rw [List.filter_cons_of_pos (by simpa using hm), List.filter_filter, List.append_assoc]
        congr 2
        rw [List.singleton_append]
        congr 2
        funext x
        by_cases hx : x = a
        · simp [hx]
        · simp [hx]
      · rw [if_neg hl, scanL_eq n r acc h]
        rw [List.take_append_of_le_length (by omega), List.take_append_of_le_length (by omega)]
theorem scanM_eq (n : Nat) : ∀ (r acc : List Int), acc.length ≤ n → scanM n acc r = (acc ++ mss n r).take n
  | [], acc, h => by
    unfold scanM mss
    simp [List.take_of_length_le h]
  | a :: r, acc, h => by
    rw [scanM_cons, mss_cons]
    by_cases hm : a ∈ (mss n r).take n
    · rw [if_pos hm, if_pos hm, scanM_eq n r acc h]
    · rw [if_neg hm, if_neg hm]
      by_cases hl : acc.length < n
      · rw [if_pos hl, scanM_eq n r (acc ++ [a]) (by simp; omega), List.append_assoc]
        rfl
      · rw [if_neg hl, scanM_eq n r acc h, List.take_append_of_le_length (by omega), List.take_append_of_le_length (by omega)]
theorem scan0 (n : Nat) (r : List Int) : scanL n [] r = (dis r).take n := by
  rw [scanL_eq n r [] (by simp), List.nil_append]
  congr 1
  rw [List.filter_eq_self]
  intro x _
  rfl
theorem scanM0 (n : Nat) (r : List Int) : scanM n [] r = (mss n r).take n := by
  rw [scanM_eq n r [] (by simp)]
  simp
theorem take_rev (us : List Int) (i : Nat) (h : i < us.length) : (us.take (i + 1)).reverse = rd us (i : Int) :: (us.take i).reverse := by
  rw [List.take_succ_eq_append_getElem h, List.reverse_append, rd_get h]
  rfl
def hitAt (n : Nat) (us : List Int) (i : Nat) : Bool := decide (rd us (i : Int) ∈ (mss n (us.take i).reverse).take n)
def hitsOf (n : Nat) (us : List Int) : List Int := (List.range us.length).map fun j => if hitAt n us j then 1 else 0
theorem hitsOf_length (n : Nat) (us : List Int) : (hitsOf n us).length = us.length := by unfold hitsOf; simp
theorem hitsOf_rd (n : Nat) (us : List Int) (i : Nat) (h : i < us.length) : rd (hitsOf n us) (i : Int) = if hitAt n us i then 1 else 0 := by
  rw [rd_get (by rw [hitsOf_length]; exact h)]
  unfold hitsOf
  simp
theorem known_l0 (n : Nat) (hn : n ≤ 6) (us A B : List Int) (hus : us.length ≤ 60) : ∀ (i k : Nat) (last came : List Int), i ≤ us.length → 2 * i + 30 < k → last.length ≤ n → came.length ≤ n →
    ∃ k', k - 2 * i - 1 ≤ k' ∧ laws_FnKnown.l0 k us n A (hitsOf n us) B last came ((i : Int) - 1) = laws_FnKnown.l1 k' n A B (scanL n last (us.take i).reverse) (scanM n came (us.take i).reverse) := by
  intro i
  induction i with
  | zero =>
    intro k last came hi hk hl hc
    obtain ⟨k, rfl⟩ : ∃ j, k = j + 1 := ⟨k - 1, by omega⟩
    refine ⟨k, by omega, ?_⟩
    simp only [laws_FnKnown.l0]
    rw [if_neg (by omega)]
    rfl
  | succ i ih =>
    intro k last came hi hk hl hc
    obtain ⟨k, rfl⟩ : ∃ j, k = j + 2 := ⟨k - 2, by omega⟩
    have hi' : i < us.length := by omega
    have hh := hitsOf_rd n us i hi'
    have hhl := hitsOf_length n us
    rw [take_rev us i hi', show ((i + 1 : Nat) : Int) - 1 = (i : Int) from by omega]
    generalize hitsOf n us = hs at hh hhl ih ⊢
    have ihs : ∀ last came : List Int, last.length ≤ n → came.length ≤ n → ∃ k', k + 2 - 2 * (i + 1) - 1 ≤ k' ∧ laws_FnKnown.l0 k us n A hs B last came ((i : Int) - 1) = laws_FnKnown.l1 k' n A B (scanL n last (us.take i).reverse) (scanM n came (us.take i).reverse) := by
      intro last came h1 h2
      obtain ⟨k', h3, h4⟩ := ih k last came (by omega) (by omega) h1 h2
      exact ⟨k', by omega, h4⟩
    -- what the second half makes of either list
    have tail : ∀ y : List Int, y.length ≤ n → ∃ k', k + 2 - 2 * (i + 1) - 1 ≤ k' ∧ (if (rd hs (i : Int)) = 0 then (if (came.length : Int) < (n : Int) then (if came.length < 17592186044416 then (laws_FnKnown.l0 k us n A hs B y (came ++ [rd us (i : Int)]) (wrap64 ((i : Int) - 1))) else (none)) else (laws_FnKnown.l0 k us n A hs B y came (wrap64 ((i : Int) - 1)))) else (laws_FnKnown.l0 k us n A hs B y came (wrap64 ((i : Int) - 1)))) =
        laws_FnKnown.l1 k' n A B (scanL n y (us.take i).reverse) (scanM n came (rd us (i : Int) :: (us.take i).reverse)) := by
      intro y hy
      rw [hh, w64 (by omega) (by omega)]
      rw [scanM_cons]
      unfold hitAt
      by_cases hm : rd us (i : Int) ∈ (mss n (us.take i).reverse).take n
      · rw [if_pos hm, decide_eq_true hm, if_pos rfl, if_neg (by decide : ¬ (1 : Int) = 0)]
        exact ihs y came hy hc
      · rw [if_neg hm, decide_eq_false hm, if_neg (by decide : ¬ (false = true)), if_pos rfl]
        by_cases hl2 : came.length < n
        · rw [if_pos hl2, if_pos (by omega), if_pos (by omega)]
          exact ihs y _ hy (by simp; omega)
        · rw [if_neg hl2, if_neg (by omega)]
          exact ihs y came hy hc
    simp only [laws_FnKnown.l0, laws_FnKnown.j2]
    rw [if_pos (by omega), if_pos (by omega), if_pos (by omega), has_ok last _ (by omega) (k + 1) (by omega), Option.bind_some]
    rw [scanL_cons]
    by_cases hm : rd us (i : Int) ∈ last
    · rw [if_pos hm, decide_eq_true hm, if_pos rfl, if_neg (by decide), if_pos (by omega), if_pos (by omega)]
      rw [if_pos (show (i : Int) < (us.length : Int) from by omega)]
      exact tail last hl
    · rw [if_neg hm, decide_eq_false hm, if_neg (by decide)]
      by_cases hl1 : last.length < n
      · rw [if_pos hl1, decide_eq_true (show (last.length : Int) < (n : Int) from by omega), if_pos rfl, if_pos (by omega), if_pos (by omega), if_pos (by omega), Option.bind_some, if_pos (by omega)]
        exact tail _ (by simp; omega)
      · rw [if_neg hl1, decide_eq_false (show ¬ (last.length : Int) < (n : Int) from by omega), if_neg (by decide), if_pos (by omega), if_pos (by omega)]
        rw [if_pos (show (i : Int) < (us.length : Int) from by omega)]
        exact tail last hl
theorem known_l1 (n : Nat) (hn : n ≤ 6) (A B came : List Int) : ∀ (d k : Nat) (last : List Int), last.length ≤ n → n - last.length = d → d < k → ∃ k', k - d - 1 ≤ k' ∧ laws_FnKnown.l1 k n A B last came = laws_FnKnown.l2 k' n A B (last ++ List.replicate d (-1)) came := by
  intro d
  induction d with
  | zero =>
    intro k last hl hd hk
    obtain ⟨k, rfl⟩ : ∃ j, k = j + 1 := ⟨k - 1, by omega⟩
    refine ⟨k, by omega, ?_⟩
    simp only [laws_FnKnown.l1]
    rw [if_neg (by omega)]
    simp
  | succ d ih =>
    intro k last hl hd hk
    obtain ⟨k, rfl⟩ : ∃ j, k = j + 1 := ⟨k - 1, by omega⟩
    obtain ⟨k', h1, h2⟩ := ih k (last ++ [-1]) (by simp; omega) (by simp; omega) (by omega)
    refine ⟨k', by omega, ?_⟩
    simp only [laws_FnKnown.l1]
    rw [if_pos (by omega), if_pos (by omega), h2, List.append_assoc]
    rfl
theorem known_l2 (n : Nat) (hn : n ≤ 6) (A B last : List Int) (hA : A = last) (hA' : A.length = n) : ∀ (d k : Nat) (came : List Int), came.length ≤ n → n - came.length = d → d + 20 < k → B = came ++ List.replicate d (-1) → laws_FnKnown.l2 k n A B last came = some true := by
  intro d
  induction d with
  | zero =>
    intro k came hl hd hk hB
    obtain ⟨k, rfl⟩ : ∃ j, k = j + 1 := ⟨k - 1, by omega⟩
    simp only [laws_FnKnown.l2]
    rw [List.replicate_zero, List.append_nil] at hB
    subst hA hB
    rw [if_neg (by omega), nums_ok A (by omega) k (by omega), Option.bind_some, if_pos rfl, nums_ok B (by omega) k (by omega)]
    rfl
  | succ d ih =>
    intro k came hl hd hk hB
    obtain ⟨k, rfl⟩ : ∃ j, k = j + 1 := ⟨k - 1, by omega⟩
    simp only [laws_FnKnown.l2]
    rw [if_pos (by omega), if_pos (by omega)]
    exact ih k (came ++ [-1]) (by simp; omega) (by simp; omega) (by omega) (by rw [hB, List.append_assoc]; rfl)
theorem rd_mem {us : List Int} {i : Nat} (h : i < us.length) : rd us (i : Int) ∈ us := by
  rw [rd_get h]
  exact List.getElem_mem _
theorem run_lru (n : Nat) (h1 : 1 ≤ n) (h2 : n ≤ 6) (us : List Int) (hl : us.length ≤ 60) (hu : ∀ x ∈ us, 0 ≤ x ∧ x < 64) (k : Nat) (hk : 100 ≤ k) :
    ∃ hs, impl_RunPolicy.f k ((List.range n).map (mvd n)) (mvd n (n - 1)) us = some (hs, padn n (dis us.reverse), true) := by
  have hml : (mvd n (n - 1)).length = n := mvd_length n _ (by omega)
  unfold impl_RunPolicy.f impl_Policy_run.f
  rw [lru_valid n h1 h2, Option.bind_some, if_pos rfl, uses_ok us hl hu, Option.bind_some, if_pos rfl, empty_ok _ _ (by omega), Option.bind_some]
  obtain ⟨r, e, _⟩ := run_loop ((List.range n).map (mvd n)) (mvd n (n - 1)) us hl (fun i => padn n (dis (us.take i).reverse)) (fun i => decide (rd us (i : Int) ∈ (dis (us.take i).reverse).take n)) (fun k i hk hi => by
    obtain ⟨o, e⟩ := lru_step n h1 h2 (dis (us.take i).reverse) (dis_nodup _) (rd us (i : Int)) (hu _ (rd_mem hi)).1 k hk
    refine ⟨o, ?_⟩
    rw [e, take_rev us i hi, dis_cons]) us.length 0 k [] (by omega) (by omega) (by omega) rfl
  have e0 : List.replicate (mvd n (n - 1)).length (-1 : Int) = padn n (dis (us.take 0).reverse) := by rw [hml]; simp [padn, dis]
  rw [e0]
  rw [List.take_length] at e
  exact ⟨_, by rw [show ((0 : Nat) : Int) = 0 from rfl] at e; rw [show (List.range 0).map (fun j => if decide (rd us (j : Int) ∈ (dis (us.take j).reverse).take n) = true then (1 : Int) else 0) = [] from rfl] at e; rw [e, Option.bind_some]⟩
theorem run_fifo (n : Nat) (h1 : 1 ≤ n) (h2 : n ≤ 6) (us : List Int) (hl : us.length ≤ 60) (hu : ∀ x ∈ us, 0 ≤ x ∧ x < 64) (k : Nat) (hk : 100 ≤ k) :
    impl_RunPolicy.f k ((List.range n).map (fun _ => asc n)) (mvd n (n - 1)) us = some (hitsOf n us, padn n (mss n us.reverse), true) := by
  have hml : (mvd n (n - 1)).length = n := mvd_length n _ (by omega)
  unfold impl_RunPolicy.f impl_Policy_run.f
  rw [fifo_valid n h1 h2, Option.bind_some, if_pos rfl, uses_ok us hl hu, Option.bind_some, if_pos rfl, empty_ok _ _ (by omega), Option.bind_some]
  obtain ⟨r, e, _⟩ := run_loop ((List.range n).map (fun _ => asc n)) (mvd n (n - 1)) us hl (fun i => padn n (mss n (us.take i).reverse)) (hitAt n us) (fun k i hk hi => by
    obtain ⟨o, e⟩ := fifo_step n h1 h2 (mss n (us.take i).reverse) (rd us (i : Int)) (hu _ (rd_mem hi)).1 k hk
    refine ⟨o, ?_⟩
    rw [e, take_rev us i hi, mss_cons]
    rfl) us.length 0 k [] (by omega) (by omega) (by omega) rfl
  have e0 : List.replicate (mvd n (n - 1)).length (-1 : Int) = padn n (mss n (us.take 0).reverse) := by rw [hml]; simp [padn, mss]
  rw [e0]
  rw [List.take_length] at e
  rw [show ((0 : Nat) : Int) = 0 from rfl] at e
  rw [show (List.range 0).map (fun j => if hitAt n us j = true then (1 : Int) else 0) = [] from rfl] at e
  rw [e, Option.bind_some]
  rfl
theorem FnKnown : laws_FnKnown.Pure := by
  intro l0 l1 _ hl0 hb0 _ hl1 hb1
  refine ⟨1000, ?_⟩
  unfold laws_FnKnown.f laws_b10Long.f
  by_cases hlong : (l0.length : Int) > 1048576
  · rw [if_pos hlong, Option.bind_some, if_pos rfl]
  rw [if_neg hlong, Option.bind_some]
  by_cases hlong1 : (l1.length : Int) > 1048576
  · rw [decide_eq_true hlong1, if_pos rfl]
  rw [decide_eq_false hlong1, if_neg (by decide)]
  obtain ⟨us, eu, hul, hu⟩ := B10Uses_ok l0 (by omega) (byteOf hb0) 1000 (by omega)
  rw [eu, Option.bind_some]
  obtain ⟨t, et, ht0, ht1⟩ := b10At_ok l1 (byteOf hb1)
  rw [et, Option.bind_some, w64 (by omega) (by omega)]
  obtain ⟨n, hn⟩ : ∃ n : Nat, (n : Int) = 1 + t := ⟨(1 + t).toNat, by omega⟩
  rw [← hn]
  have h1 : 1 ≤ n := by omega
  have h2 : n ≤ 6 := by omega
  have eL : impl_LruPolicy.f n = some ((List.range n).map (mvd n), mvd n (n - 1), true) := by
    unfold impl_LruPolicy.f
    rw [if_pos (by omega), Int.toNat_natCast]
  have eF : impl_FifoPolicy.f n = some ((List.range n).map (fun _ => asc n), mvd n (n - 1), true) := by
    unfold impl_FifoPolicy.f
    rw [if_pos (by omega), Int.toNat_natCast]
  rw [eL, Option.bind_some, eF, Option.bind_some]
  dsimp only
  obtain ⟨hsL, eRL⟩ := run_lru n h1 h2 us (by omega) hu 1000 (by omega)
  rw [eRL, Option.bind_some, run_fifo n h1 h2 us (by omega) hu 1000 (by omega), Option.bind_some]
  dsimp only
  have hA := padn_length n (dis us.reverse)
  have hB := padn_length n (mss n us.reverse)
  have hH := hitsOf_length n us
  rw [if_pos rfl, if_pos rfl, if_pos rfl, if_pos rfl, if_pos (by omega), if_pos (by omega), show ((hitsOf n us).length : Int) = (us.length : Int) from by omega]
  simp only [laws_FnKnown.j0]
  rw [if_neg (by simp), w64 (by omega) (by omega)]
  obtain ⟨k1, hk1, e1⟩ := known_l0 n h2 us (padn n (dis us.reverse)) (padn n (mss n us.reverse)) (by omega) us.length 999 [] [] (by omega) (by omega) (by simp) (by simp)
  rw [e1, List.take_length, scan0, scanM0]
  obtain ⟨k2, hk2, e2⟩ := known_l1 n h2 (padn n (dis us.reverse)) (padn n (mss n us.reverse)) ((mss n us.reverse).take n) (n - ((dis us.reverse).take n).length) k1 ((dis us.reverse).take n) (by simp; omega) rfl (by omega)
  rw [e2]
  refine known_l2 n h2 _ _ _ ?_ hA (n - ((mss n us.reverse).take n).length) k2 _ (by simp; omega) rfl (by omega) ?_
  · unfold padn
    congr 2
    simp
    omega
  · unfold padn
    congr 2
    simp
    omega
end Go.Proofs.Ytndiplmpolkneaa.Pure
