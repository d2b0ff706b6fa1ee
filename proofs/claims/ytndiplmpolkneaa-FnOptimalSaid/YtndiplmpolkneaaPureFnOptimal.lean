/- The plain law of FnOptimal: what the printed functions compute answers true for all lists of bytes, whatever their lengths; no condition beyond those that the row itself gives. -/
import Derived.Test.YtndiplmpolkneaaOx11
import Derived.Laws.Bits64b
namespace Go.Proofs.Ytndiplmpolkneaa.Pure
open Go Go.RowKit Go.Proofs.Ytndiplmpolkneaa.O Go.Proofs.YtndiplmpolkneaaW.PrintWords Go.Proofs.YtndiplmpolkneaaW.PrintLast
set_option linter.unusedVariables false
set_option linter.unusedSimpArgs false
/-! ### The source of numbers -/
theorem byteOf {l : List Int} (h : ∀ x ∈ l, (Lit.int .u8 x).wf = true) : ∀ x ∈ l, 0 ≤ x ∧ x < 256 := by
  intro x hx
  have := h x hx
  simp [Lit.wf, IntKind.min, IntKind.max, IntKind.signed, IntKind.bits] at this
  omega
theorem rd_byte {l : List Int} (h : ∀ x ∈ l, 0 ≤ x ∧ x < 256) (i : Int) : 0 ≤ rd l i ∧ rd l i < 256 := by
  unfold rd
  rw [List.getD_eq_getElem?_getD]
  cases hg : l[i.toNat]? with
  | none => simp
  | some v => exact h v (List.mem_of_getElem? hg)
theorem and255 (x : Int) (h0 : 0 ≤ x) (h1 : x < 18446744073709551616) : 0 ≤ Go.bits .and .u64 x 255 ∧ Go.bits .and .u64 x 255 < 256 := by
  have h := bits_and_u64_nat x.toNat 255 (by omega) (by omega)
  rw [show ((x.toNat : Nat) : Int) = x from by omega] at h
  have h2 : (x.toNat &&& 255 : Nat) ≤ 255 := Nat.and_le_right
  rw [show ((255 : Nat) : Int) = 255 from rfl] at h
  rw [h]
  omega
theorem u64w (x : Int) : 0 ≤ IntKind.u64.wrap x ∧ IntKind.u64.wrap x < 18446744073709551616 := by
  rw [IntKind.wrap_u64]
  omega
theorem next_ok (l : List Int) (hl : l.length ≤ 140737488351232) (hb : ∀ x ∈ l, 0 ≤ x ∧ x < 256) (p q : Int) (hp : 0 ≤ p) (hp' : p < 4611686018427387904) :
    ∃ v q', spec_l00Src_next.f l p q = some (v, p + 1, q') ∧ 0 ≤ v ∧ v < 256 := by
  have hw : wrap64 (p + 1) = p + 1 := by unfold wrap64; omega
  have hr := rd_byte hb p
  have hwr : wrap64 (rd l p) = rd l p := by unfold wrap64; omega
  have key : ∀ X : Int, 0 ≤ wrap64 (Go.bits .and .u64 ((IntKind.u64.wrap X) / 1099511627776) 255) ∧ wrap64 (Go.bits .and .u64 ((IntKind.u64.wrap X) / 1099511627776) 255) < 256 := by
    intro X
    have h1 := u64w X
    have h2 := and255 ((IntKind.u64.wrap X) / 1099511627776) (by omega) (by omega)
    generalize Go.bits .and .u64 ((IntKind.u64.wrap X) / 1099511627776) 255 = y at h2 ⊢
    unfold wrap64
    omega
  unfold spec_l00Src_next.f
  rw [hw]
  by_cases h1 : p < (l.length : Int)
  · rw [if_pos h1, if_pos hp, if_pos (by omega), hwr]
    exact ⟨_, _, rfl, hr.1, hr.2⟩
  · rw [if_neg h1]
    by_cases h2 : p + 1 ≤ (l.length : Int)
    · omega
    · rw [if_neg h2]
      exact ⟨_, _, rfl, (key _).1, (key _).2⟩
theorem tmod_ok (v n : Int) (hv : 0 ≤ v) (hn : 0 < n) : 0 ≤ Int.tmod v n ∧ Int.tmod v n < n :=
  ⟨Int.tmod_nonneg n hv, Int.tmod_lt_of_pos v hn⟩
theorem pick_ok (l : List Int) (hl : l.length ≤ 140737488351232) (hb : ∀ x ∈ l, 0 ≤ x ∧ x < 256) (p q n : Int) (hp : 0 ≤ p) (hp' : p < 4611686018427387000) (hn : 1 ≤ n) :
    ∃ v p' q', spec_l00Src_pick.f l p q n = some (v, p', q') ∧ 0 ≤ v ∧ v < n ∧ p ≤ p' ∧ p' ≤ p + 2 := by
  unfold spec_l00Src_pick.f
  by_cases h1 : n ≤ 1
  · rw [if_pos h1]
    exact ⟨0, p, q, rfl, by omega, by omega, by omega, by omega⟩
  · rw [if_neg h1]
    obtain ⟨v, q1, e1, hv0, hv1⟩ := next_ok l hl hb p q hp (by omega)
    rw [e1, Option.bind_some]
    by_cases h2 : n > 200
    · rw [if_pos h2]
      obtain ⟨v2, q2, e2, hw0, hw1⟩ := next_ok l hl hb (p + 1) q1 (by omega) (by omega)
      dsimp only
      rw [e2, Option.bind_some, if_neg (by omega)]
      dsimp only
      obtain ⟨h3, h4⟩ := tmod_ok (wrap64 (wrap64 (v * 256) + v2)) n (by unfold wrap64; omega) (by omega)
      exact ⟨_, _, _, rfl, h3, h4, by omega, by omega⟩
    · rw [if_neg h2, if_neg (by omega)]
      obtain ⟨h3, h4⟩ := tmod_ok v n hv0 (by omega)
      exact ⟨_, _, _, rfl, h3, h4, by dsimp only; omega, by dsimp only; omega⟩
/-! ### Lists -/
theorem w64 {x : Int} (h0 : -9223372036854775808 ≤ x) (h1 : x < 9223372036854775808) : wrap64 x = x := by unfold wrap64; omega
theorem rd_get {l : List Int} {i : Nat} (h : i < l.length) : rd l (i : Int) = l[i] := by
  unfold rd
  simp [List.getD_eq_getElem?_getD, h]
theorem rd_nat (l : List Int) (i : Nat) : rd l (i : Int) = l.getD i 0 := by unfold rd; simp
theorem B10Uses_loop (l : List Int) (hl : l.length ≤ 140737488351232) (hb : ∀ x ∈ l, 0 ≤ x ∧ x < 256) (m : Int) (hm : 1 ≤ m) (hm' : m ≤ 64) : ∀ (d : Nat) (acc : List Int) (p q : Int) (k : Nat), d ≤ 30 → 0 ≤ p → p + 2 * d < 1000 → acc.length + d ≤ 60 → (∀ x ∈ acc, 0 ≤ x ∧ x < m) → d < k →
    ∃ r, spec_B10Uses.l0 k acc m d l p q = some r ∧ r.length = acc.length + d ∧ ∀ x ∈ r, 0 ≤ x ∧ x < m := by
  intro d
  induction d with
  | zero =>
    intro acc p q k _ _ _ _ ha hk
    obtain ⟨k, rfl⟩ : ∃ j, k = j + 1 := ⟨k - 1, by omega⟩
    refine ⟨acc, ?_, by simp, ha⟩
    simp only [spec_B10Uses.l0]
    rw [if_neg (by simp)]
  | succ d ih =>
    intro acc p q k h1 h2 h3 h4 ha hk
    obtain ⟨k, rfl⟩ : ∃ j, k = j + 1 := ⟨k - 1, by omega⟩
    obtain ⟨v, p', q', e, hv0, hv1, hp0, hp1⟩ := pick_ok l hl hb p q m h2 (by omega) hm
    simp only [spec_B10Uses.l0]
    rw [if_pos (by omega), e, Option.bind_some]
    dsimp only
    rw [if_pos (by omega), w64 (by omega) (by omega), show ((d + 1 : Nat) : Int) - 1 = (d : Int) from by omega]
    obtain ⟨r, hr, hlen, hall⟩ := ih (acc ++ [v]) p' q' k (by omega) (by omega) (by omega) (by simp; omega) (by
      intro x hx
      rcases List.mem_append.1 hx with hx | hx
      · exact ha x hx
      · obtain rfl := List.mem_singleton.1 hx; exact ⟨hv0, hv1⟩) (by omega)
    exact ⟨r, hr, by rw [hlen]; simp; omega, hall⟩
theorem B10Uses_ok (l : List Int) (hl : l.length ≤ 140737488351232) (hb : ∀ x ∈ l, 0 ≤ x ∧ x < 256) (k : Nat) (hk : 40 ≤ k) :
    ∃ r, spec_B10Uses.f k l = some r ∧ r.length ≤ 30 ∧ ∀ x ∈ r, 0 ≤ x ∧ x < 64 := by
  unfold spec_B10Uses.f spec_l00From.f
  rw [Option.bind_some]
  obtain ⟨a, p1, q1, e1, ha0, ha1, hp0, hp1⟩ := pick_ok l hl hb 0 0 7 (by omega) (by omega) (by omega)
  dsimp only
  rw [e1, Option.bind_some]
  obtain ⟨n, p2, q2, e2, hn0, hn1, hp2, hp3⟩ := pick_ok l hl hb p1 q1 30 (by omega) (by omega) (by omega)
  dsimp only
  rw [e2, Option.bind_some]
  dsimp only
  rw [w64 (by omega) (by omega)]
  obtain ⟨r, hr, hlen, hall⟩ := B10Uses_loop l hl hb (2 + a) (by omega) (by omega) n.toNat [] p2 q2 k (by omega) (by omega) (by omega) (by simp; omega) (by simp) (by omega)
  rw [show ((n.toNat : Nat) : Int) = n from by omega] at hr
  refine ⟨r, hr, by rw [hlen]; simp; omega, fun x hx => ?_⟩
  have := hall x hx
  omega
theorem index_loop (l : List Int) (a : Int) (hl : l.length < 1000000) : ∀ (d i k : Nat), l.length - i = d → i ≤ l.length → d < k → (∀ j, j < i → rd l (j : Int) ≠ a) →
    (∃ j, j < l.length ∧ rd l (j : Int) = a ∧ slices_Index_int64_int64.l0 k l a l.length i = some (j : Int)) ∨ ((∀ j, j < l.length → rd l (j : Int) ≠ a) ∧ slices_Index_int64_int64.l0 k l a l.length i = some (-1)) := by
  intro d
  induction d with
  | zero =>
    intro i k hd hi hk hA
    obtain ⟨k, rfl⟩ : ∃ j, k = j + 1 := ⟨k - 1, by omega⟩
    simp only [slices_Index_int64_int64.l0]
    rw [if_neg (by omega)]
    exact .inr ⟨fun j hj => hA j (by omega), rfl⟩
  | succ d ih =>
    intro i k hd hi hk hA
    obtain ⟨k, rfl⟩ : ∃ j, k = j + 1 := ⟨k - 1, by omega⟩
    simp only [slices_Index_int64_int64.l0]
    rw [if_pos (by omega), if_pos (by omega), if_pos (by omega)]
    by_cases hx : a = rd l (i : Int)
    · rw [if_pos hx]
      exact .inl ⟨i, by omega, hx.symm, rfl⟩
    · rw [if_neg hx, w64 (by omega) (by omega), show (i : Int) + 1 = ((i + 1 : Nat) : Int) from by omega]
      refine ih (i + 1) k (by omega) (by omega) (by omega) (fun j hj => ?_)
      by_cases e : j = i
      · subst e; exact fun h => hx h.symm
      · exact hA j (by omega)
theorem index_ok (l : List Int) (a : Int) (hl : l.length < 1000000) (k : Nat) (hk : l.length < k) :
    (∃ j, j < l.length ∧ rd l (j : Int) = a ∧ slices_Index_int64_int64.f k l a = some (j : Int)) ∨ ((∀ j, j < l.length → rd l (j : Int) ≠ a) ∧ slices_Index_int64_int64.f k l a = some (-1)) :=
  index_loop l a hl l.length 0 k (by omega) (by omega) hk (by simp)
theorem permuted_loop (c ages : List Int) (hc : c.length < 1000000) (ha : ages.length < 1000000) (hr : ∀ i, i < ages.length → 0 ≤ rd ages (i : Int) ∧ rd ages (i : Int) < c.length) : ∀ (d i k : Nat), ages.length - i = d → i ≤ ages.length → d < k →
    impl_permuted.l0 k c ((ages.take i).map (rd c)) ages ages.length i = some (ages.map (rd c)) := by
  intro d
  induction d with
  | zero =>
    intro i k hd hi hk
    obtain ⟨k, rfl⟩ : ∃ j, k = j + 1 := ⟨k - 1, by omega⟩
    simp only [impl_permuted.l0]
    rw [if_neg (by omega), List.take_of_length_le (by omega)]
  | succ d ih =>
    intro i k hd hi hk
    obtain ⟨k, rfl⟩ : ∃ j, k = j + 1 := ⟨k - 1, by omega⟩
    have hi' : i < ages.length := by omega
    have h := hr i hi'
    simp only [impl_permuted.l0]
    rw [if_pos (by omega), if_pos (by omega), if_pos (by omega), if_pos h.1, if_pos h.2, if_pos (by simp; omega), w64 (by omega) (by omega), show (i : Int) + 1 = ((i + 1 : Nat) : Int) from by omega]
    have e : (ages.take i).map (rd c) ++ [rd c (rd ages (i : Int))] = (ages.take (i + 1)).map (rd c) := by
      rw [List.take_succ_eq_append_getElem hi', List.map_append, rd_get hi']; rfl
    rw [e]
    exact ih (i + 1) k (by omega) (by omega) (by omega)
theorem permuted_ok (c ages : List Int) (hc : c.length < 1000000) (ha : ages.length < 1000000) (hr : ∀ x ∈ ages, 0 ≤ x ∧ x < c.length) (k : Nat) (hk : ages.length < k) : impl_permuted.f k c ages = some (ages.map (rd c)) :=
  permuted_loop c ages hc ha (fun i hi => by rw [rd_get hi]; exact hr _ (List.getElem_mem _)) ages.length 0 k (by omega) (by omega) hk
/-! ### The two policies -/
theorem map_rd_range (c : List Int) : ∀ n, n ≤ c.length → (asc (n : Int)).map (rd c) = c.take n := by
  intro n hn
  unfold asc
  rw [Int.toNat_natCast, List.map_map]
  apply List.ext_getElem
  · simp; omega
  · intro i h1 h2
    simp only [List.length_map, List.length_range] at h1
    simp [rd, List.getD_eq_getElem?_getD, show i < c.length by omega]
theorem asc_take (n i : Nat) (h : i ≤ n) : (asc (n : Int)).take i = asc (i : Int) := by
  unfold asc
  simp [List.take_range, Nat.min_eq_left h, ← List.map_take]
theorem map_rd_drop (c : List Int) (n i : Nat) (hn : n = c.length) : ((asc (n : Int)).drop i).map (rd c) = c.drop i := by
  rw [List.map_drop, map_rd_range c n (by omega), hn, List.take_length]
theorem asc_mem {n : Nat} {x : Int} (h : x ∈ asc (n : Int)) : 0 ≤ x ∧ x < n := by
  unfold asc at h
  simp at h
  obtain ⟨a, ha, rfl⟩ := h
  omega
theorem asc_sorted (n : Int) : (asc n).Pairwise fun a b => decide (a ≤ b) = true := by
  unfold asc
  rw [List.pairwise_map]
  exact List.pairwise_lt_range.imp (fun {a b} h => by simp; omega)
theorem srt_of_perm {l : List Int} {n : Int} (h : l.Perm (asc n)) : srt l = asc n := by
  refine List.Perm.eq_of_pairwise (le := fun a b => decide (a ≤ b) = true) ?_ ?_ (asc_sorted n) ((List.mergeSort_perm _ _).trans h)
  · intro a b _ _ h1 h2; simp at h1 h2; omega
  · exact List.pairwise_mergeSort (by intro a b c h1 h2; simp at *; omega) (by intro a b; simp; omega) l
theorem isOrd_of_perm {l : List Int} {n : Nat} (h : l.Perm (asc n)) : isOrd n l = true := by
  unfold isOrd
  rw [srt_of_perm h, h.length_eq, asc_length]
  simp
theorem valid_of (n : Nat) (h1 : 1 ≤ n) (h2 : n ≤ 6) (rows : List (List Int)) (ms : List Int) (hl : rows.length = n) (hr : ∀ x ∈ rows, x.Perm (asc n)) (hm : ms.Perm (asc n)) : impl_ValidPolicy.f rows ms = some true := by
  have hml : ms.length = n := by rw [hm.length_eq, asc_length]; omega
  unfold impl_ValidPolicy.f
  rw [hml, if_pos ⟨by omega, List.all_eq_true.2 fun x hx => by have := (hr x hx).length_eq; rw [asc_length] at this; simp; omega⟩]
  congr 1
  rw [isOrd_of_perm hm, show rows.all (isOrd n) = true from List.all_eq_true.2 fun x hx => isOrd_of_perm (hr x hx)]
  simp [inR, hl]
  omega
theorem empty_ok (rows : List (List Int)) (ms : List Int) (h : ms.length ≤ 6) : impl_Policy_empty.f rows ms = some (List.replicate ms.length (-1)) := by
  unfold impl_Policy_empty.f slices_Repeat_int64_int64.f
  rw [if_pos ⟨rfl, by omega, by omega⟩]
  simp
theorem uses_ok (us : List Int) (h1 : us.length ≤ 60) (h2 : ∀ x ∈ us, 0 ≤ x ∧ x < 64) : impl_ValidUses.f us = some true := by
  unfold impl_ValidUses.f impl_allIn.f
  rw [if_pos (by omega), Option.bind_some]
  congr 1
  rw [List.all_eq_true]
  intro x hx
  have := h2 x hx
  simp [inR]
  omega
theorem step_hit (rows : List (List Int)) (ms : List Int) (n j : Nat) (c : List Int) (a : Int) (hn : n = c.length) (h2 : n ≤ 6) (hrl : rows.length = n) (k : Nat) (hk : 10 ≤ k)
    (hm : ∀ i, i < n → ((rows.getD i []).length ≤ 6 ∧ ∀ x ∈ rows.getD i [], 0 ≤ x ∧ x < n)) (hj : j < c.length) (hja : rd c (j : Int) = a) :
    ∃ i, i < c.length ∧ rd c (i : Int) = a ∧ impl_Policy_step.f k rows ms c a = some ((rows.getD i []).map (rd c), -1, true) := by
  unfold impl_Policy_step.f
  rcases index_ok c a (by omega) k (by omega) with ⟨i, hi, hia, e⟩ | ⟨hA, _⟩
  · refine ⟨i, hi, hia, ?_⟩
    rw [e, Option.bind_some, if_pos (by omega), if_pos (by omega), if_pos (by omega)]
    have er : rd_L2 rows (i : Int) = rows.getD i [] := by unfold rd_L2; simp
    have hmi := hm i (by omega)
    rw [er, permuted_ok _ _ (by omega) (by omega) (fun x hx => by have := hmi.2 x hx; omega) k (by omega), Option.bind_some]
  · exact absurd hja (hA j hj)
/-- The different addresses of uses (the latest first), the latest first. -/
def dis : List Int → List Int
  | [] => []
  | a :: r => a :: (dis r).filter (· != a)
theorem dis_cons (a : Int) (r : List Int) : dis (a :: r) = a :: (dis r).filter (· != a) := rfl
theorem dis_nodup : ∀ r, (dis r).Nodup
  | [] => List.nodup_nil
  | a :: r => by
    unfold dis
    rw [List.nodup_cons]
    exact ⟨by simp, (dis_nodup r).filter _⟩
theorem dis_mem : ∀ (r : List Int) (x : Int), x ∈ dis r → x ∈ r
  | [], _, h => by simp [dis] at h
  | a :: r, x, h => by
    unfold dis at h
    rcases List.mem_cons.1 h with rfl | h
    · exact List.mem_cons_self
    · exact List.mem_cons_of_mem _ (dis_mem r x (List.mem_filter.1 h).1)
theorem erase_nodup : ∀ (T : List Int) (j : Nat) (a : Int), T.Nodup → T[j]? = some a → T.eraseIdx j = T.filter (· != a)
  | [], _, _, _, h => by simp at h
  | b :: T, 0, a, hn, h => by
    obtain rfl : b = a := by simpa using h
    rw [List.nodup_cons] at hn
    rw [List.eraseIdx_cons_zero, List.filter_cons_of_neg (by simp)]
    symm
    rw [List.filter_eq_self]
    intro x hx
    have : x ≠ b := fun e => hn.1 (e ▸ hx)
    simpa using this
  | b :: T, j + 1, a, hn, h => by
    rw [List.nodup_cons] at hn
    have hT : T[j]? = some a := by simpa using h
    have hba : b ≠ a := fun e => hn.1 (e ▸ List.mem_of_getElem? hT)
    rw [List.eraseIdx_cons_succ, List.filter_cons_of_pos (by simpa using hba), erase_nodup T j a hn.2 hT]
/-! ### Places in the list of different addresses -/
theorem dis_of_mem : ∀ (r : List Int) (x : Int), x ∈ r → x ∈ dis r
  | a :: r, x, h => by
    rw [dis_cons]
    by_cases e : x = a
    · rw [e]; exact List.mem_cons_self
    · rcases List.mem_cons.1 h with h | h
      · exact absurd h e
      · exact List.mem_cons_of_mem _ (List.mem_filter.2 ⟨dis_of_mem r x h, by simpa using e⟩)
theorem dis_append : ∀ (p s : List Int), dis (p ++ s) = dis p ++ (dis s).filter (fun x => !decide (x ∈ p))
  | [], s => by
    simp only [dis, List.nil_append]
    symm
    rw [List.filter_eq_self]
    intro x _
    rfl
  | a :: p, s => by
    rw [List.cons_append, dis_cons, dis_append p s, dis_cons, List.filter_append, List.filter_filter, List.cons_append]
    congr 2
    congr 1
    funext x
    by_cases hx : x = a
    · simp [hx]
    · simp [hx]
/-- At which place a use of an address is found: how many different addresses were used since its last use, or -1. -/
def dst (r : List Int) (a : Int) : Int := if a ∈ r then ((dis (r.takeWhile (· != a))).length : Int) else -1
theorem dst_at (p s : List Int) (a : Int) (ha : a ∉ p) : dst (p ++ a :: s) a = ((dis p).length : Int) := by
  unfold dst
  rw [if_pos (by simp), List.takeWhile_append_of_pos (by
    intro x hx
    have : x ≠ a := fun e => ha (e ▸ hx)
    simpa using this), List.takeWhile_cons_of_neg (by simp), List.append_nil]
theorem dis_le (r : List Int) : (dis r).length ≤ r.length := by
  induction r with
  | nil => simp [dis]
  | cons a r ih =>
    rw [dis_cons]
    have := List.length_filter_le (· != a) (dis r)
    simp
    omega
theorem dst_lt (r : List Int) (a : Int) : -1 ≤ dst r a ∧ dst r a < r.length + 1 := by
  unfold dst
  by_cases h : a ∈ r
  · rw [if_pos h]
    have h1 := dis_le (r.takeWhile (· != a))
    have h2 : (r.takeWhile (· != a)).length ≤ r.length := (List.takeWhile_sublist _).length_le
    omega
  · rw [if_neg h]; omega
theorem mem_take_dst (r : List Int) (a : Int) (n : Nat) : a ∈ (dis r).take n ↔ (0 ≤ dst r a ∧ dst r a < n) := by
  by_cases h : a ∈ r
  · obtain ⟨p, s, rfl, hp⟩ := List.eq_append_cons_of_mem h
    have hd : dis (p ++ a :: s) = dis p ++ a :: ((dis s).filter (· != a)).filter (fun x => !decide (x ∈ p)) := by
      rw [dis_append, dis_cons, List.filter_cons_of_pos (by simpa using hp)]
    rw [dst_at p s a hp, hd]
    constructor
    · intro hm
      by_cases hl : (dis p).length < n
      · omega
      · rw [List.take_append_of_le_length (by omega)] at hm
        exact absurd (dis_mem p a (List.mem_of_mem_take hm)) hp
    · intro hl
      rw [List.take_append, List.mem_append]
      right
      obtain ⟨m, hm⟩ : ∃ m, n - (dis p).length = m + 1 := ⟨n - (dis p).length - 1, by omega⟩
      rw [hm, List.take_succ_cons]
      exact List.mem_cons_self
  · constructor
    · intro hm
      exact absurd (dis_mem r a (List.mem_of_mem_take hm)) h
    · intro hd
      unfold dst at hd
      rw [if_neg h] at hd
      omega
theorem filter_len (T : List Int) (a : Int) (hn : T.Nodup) : (T.filter (· != a)).length + (if a ∈ T then 1 else 0) = T.length := by
  by_cases h : a ∈ T
  · rw [if_pos h]
    obtain ⟨j, hj, e⟩ := List.mem_iff_getElem.1 h
    rw [← erase_nodup T j a hn (by rw [List.getElem?_eq_getElem hj, e]), List.length_eraseIdx_of_lt hj]
    omega
  · rw [if_neg h, List.filter_eq_self.2 (fun x hx => by
      have : x ≠ a := fun e => h (e ▸ hx)
      simpa using this)]
    omega
theorem dis_len_cons (a : Int) (r : List Int) : (dis (a :: r)).length = (dis r).length + (if a ∈ r then 0 else 1) := by
  rw [dis_cons, List.length_cons]
  have h := filter_len (dis r) a (dis_nodup r)
  by_cases hm : a ∈ r
  · rw [if_pos (dis_of_mem r a hm)] at h
    rw [if_pos hm]
    omega
  · rw [if_neg (fun e => hm (dis_mem r a e))] at h
    rw [if_neg hm]
    omega
/-! ### The set of a list -/
theorem compactUpTo_sorted (zs : List Int) (hs : zs.Pairwise fun a b => decide (a ≤ b) = true) : ∀ m, m ≤ zs.length →
    (Lib.compactUpTo zs.toArray m).Nodup ∧ (∀ x, x ∈ Lib.compactUpTo zs.toArray m ↔ x ∈ zs.take m) := by
  intro m
  induction m with
  | zero => intro _; simp [Lib.compactUpTo]
  | succ m ih =>
    intro hm
    obtain ⟨h1, h2⟩ := ih (by omega)
    have hlt : m < zs.length := by omega
    have hg : zs.toArray[m]! = zs[m] := by simp [hlt]
    rw [Lib.compactUpTo_succ, List.take_succ_eq_append_getElem hlt, hg]
    by_cases hk : Lib.keeps zs.toArray m = true
    · rw [if_pos hk]
      have hnew : zs[m] ∉ zs.take m := by
        intro hmem
        obtain ⟨i, hi, e⟩ := List.mem_iff_getElem.1 hmem
        simp at hi
        rw [List.getElem_take] at e
        have hm0 : 0 < m := by omega
        have hle : zs[m - 1] ≤ zs[m] := by
          have := List.pairwise_iff_getElem.1 hs (m - 1) m (by omega) hlt (by omega)
          simpa using this
        have hle2 : zs[i] ≤ zs[m - 1] := by
          by_cases hii : i = m - 1
          · subst hii; omega
          · have := List.pairwise_iff_getElem.1 hs i (m - 1) (by omega) (by omega) (by omega)
            simpa using this
        unfold Lib.keeps at hk
        have hk' := of_decide_eq_true hk
        rcases hk' with hk' | hk'
        · omega
        · rw [hg, show zs.toArray[m - 1]! = zs[m - 1] from by simp [show m - 1 < zs.length by omega]] at hk'
          omega
      refine ⟨?_, fun x => ?_⟩
      · rw [List.nodup_append]
        refine ⟨h1, by simp, ?_⟩
        intro x hx y hy e
        rw [List.mem_singleton] at hy
        exact hnew (by rw [← hy, ← e]; exact (h2 x).1 hx)
      · rw [List.mem_append, List.mem_append, h2 x]
    · rw [if_neg hk, List.append_nil]
      refine ⟨h1, fun x => ?_⟩
      rw [h2 x, List.mem_append, List.mem_singleton]
      constructor
      · exact Or.inl
      · rintro (h | h)
        · exact h
        · unfold Lib.keeps at hk
          have hk' : ¬ (m = 0 ∨ zs.toArray[m]! ≠ zs.toArray[m - 1]!) := fun e => hk (decide_eq_true e)
          have hm0 : 0 < m := by omega
          have he : zs.toArray[m]! = zs.toArray[m - 1]! := by
            by_cases e : zs.toArray[m]! = zs.toArray[m - 1]!
            · exact e
            · exact absurd (Or.inr e) hk'
          rw [hg, show zs.toArray[m - 1]! = zs[m - 1] from by simp [show m - 1 < zs.length by omega]] at he
          rw [h, he]
          exact List.mem_iff_getElem.2 ⟨m - 1, by simp; omega, by rw [List.getElem_take]⟩
theorem srt_sorted (l : List Int) : (srt l).Pairwise fun a b => decide (a ≤ b) = true :=
  List.pairwise_mergeSort (by intro a b c h1 h2; simp at *; omega) (by intro a b; simp; omega) l
theorem set_len (l r : List Int) (h : ∀ x, x ∈ l ↔ x ∈ r) : (Lib.compact (srt l)).length = (dis r).length := by
  obtain ⟨h1, h2⟩ := compactUpTo_sorted (srt l) (srt_sorted l) (srt l).length (Nat.le_refl _)
  rw [List.take_length] at h2
  have hp : (Lib.compactUpTo (srt l).toArray (srt l).length).Perm (dis r) := by
    rw [List.perm_ext_iff_of_nodup h1 (dis_nodup r)]
    intro x
    rw [h2 x, show x ∈ srt l ↔ x ∈ l from (List.mergeSort_perm l _).mem_iff, h x]
    exact ⟨dis_of_mem r x, dis_mem r x⟩
  exact hp.length_eq
/-! ### Rounds enough -/
/-- From some number of rounds on F tells v. -/
def Ev {α : Type} (F : Nat → Option α) (v : α) : Prop := ∃ k0, ∀ k, k0 ≤ k → F k = some v
theorem Ev.const {α : Type} {o : Option α} {v : α} (h : o = some v) : Ev (fun _ => o) v := ⟨0, fun _ _ => h⟩
theorem Ev.of {α : Type} {F : Nat → Option α} {v : α} (k0 : Nat) (h : ∀ k, k0 ≤ k → F k = some v) : Ev F v := ⟨k0, h⟩
theorem Ev.bind {α β : Type} {F : Nat → Option α} {G : Nat → α → Option β} {v : α} {u : β} (h : Ev F v) (h2 : Ev (fun k => G k v) u) : Ev (fun k => (F k).bind (G k)) u := by
  obtain ⟨a, ha⟩ := h
  obtain ⟨b, hb⟩ := h2
  exact ⟨max a b, fun k hk => by show (F k).bind (G k) = some u; rw [ha k (by omega), Option.bind_some]; exact hb k (by omega)⟩
/-- A round more. -/
theorem Ev.step {α : Type} {F G : Nat → Option α} {v : α} (h : Ev G v) (e : ∀ k, F (k + 1) = G k) : Ev F v := by
  obtain ⟨a, ha⟩ := h
  refine ⟨a + 1, fun k hk => ?_⟩
  obtain ⟨m, rfl⟩ : ∃ m, k = m + 1 := ⟨k - 1, by omega⟩
  rw [e]
  exact ha m (by omega)
theorem Ev.congr {α : Type} {F G : Nat → Option α} {v : α} (h : Ev G v) (e : ∀ k, F k = G k) : Ev F v := by
  obtain ⟨a, ha⟩ := h
  exact ⟨a, fun k hk => by rw [e]; exact ha k hk⟩
/-- The addresses that contents tell. -/
def toldOf (l : List Int) : List Int := l.filter fun a => !decide (a < 0)
/-! ### The drawn policies -/
theorem Ev.mono {α : Type} {F : Nat → Option α} {v : α} (hm : ∀ k, LeO (F k) (F (k + 1))) (k0 : Nat) (h : F k0 = some v) : Ev F v := by
  refine ⟨k0, fun k hk => ?_⟩
  obtain ⟨d, rfl⟩ : ∃ d, k = k0 + d := ⟨k - k0, by omega⟩
  clear hk
  induction d with
  | zero => exact h
  | succ d ih => exact hm _ _ ih
/-- A policy with n ways: each list is the ages in some order. -/
structure Good (n : Nat) (rows : List (List Int)) (ms : List Int) : Prop where
  len : rows.length = n
  row : ∀ x ∈ rows, x.Perm (asc n)
  miss : ms.Perm (asc n)
def goodB (n : Nat) (rows : List (List Int)) (ms : List Int) : Bool := decide (rows.length = n) && rows.all (fun x => x.isPerm (asc n)) && ms.isPerm (asc n)
theorem good_of {n : Nat} {rows : List (List Int)} {ms : List Int} (h : goodB n rows ms = true) : Good n rows ms := by
  unfold goodB at h
  simp only [Bool.and_eq_true, decide_eq_true_iff, List.all_eq_true] at h
  exact ⟨h.1.1, fun x hx => List.isPerm_iff.1 (h.1.2 x hx), List.isPerm_iff.1 h.2⟩
def goodO (n : Nat) : Option (List (List Int) × List Int) → Bool
  | some (r, m) => goodB n r m
  | none => false
theorem named {n : Nat} {F : Nat → Option (List (List Int) × List Int)} (hm : ∀ k, LeO (F k) (F (k + 1))) (h : goodO n (F 100) = true) : ∃ r m, Ev F (r, m) ∧ Good n r m := by
  cases hF : F 100 with
  | none => rw [hF] at h; exact absurd h (by simp [goodO])
  | some v =>
    obtain ⟨r, m⟩ := v
    rw [hF] at h
    exact ⟨r, m, Ev.mono hm 100 hF, good_of h⟩
theorem lru_good (n : Nat) (h1 : 1 ≤ n) (h2 : n ≤ 6) : ∃ r m, Ev (fun k => spec_l03Lru.f k n) (r, m) ∧ Good n r m := by
  refine named (fun k => spec_l03Lru.mono _ k) ?_
  have : n = 1 ∨ n = 2 ∨ n = 3 ∨ n = 4 ∨ n = 5 ∨ n = 6 := by omega
  rcases this with rfl | rfl | rfl | rfl | rfl | rfl <;> decide +kernel
theorem fifo_good (n : Nat) (h1 : 1 ≤ n) (h2 : n ≤ 6) : ∃ r m, Ev (fun k => spec_l03Fifo.f k n) (r, m) ∧ Good n r m := by
  refine named (fun k => spec_l03Fifo.mono _ k) ?_
  have : n = 1 ∨ n = 2 ∨ n = 3 ∨ n = 4 ∨ n = 5 ∨ n = 6 := by omega
  rcases this with rfl | rfl | rfl | rfl | rfl | rfl <;> decide +kernel
theorem mru_good (n : Nat) (h1 : 1 ≤ n) (h2 : n ≤ 6) : ∃ r m, Ev (fun k => spec_l03Mru.f k n) (r, m) ∧ Good n r m := by
  refine named (fun k => spec_l03Mru.mono _ k) ?_
  have : n = 1 ∨ n = 2 ∨ n = 3 ∨ n = 4 ∨ n = 5 ∨ n = 6 := by omega
  rcases this with rfl | rfl | rfl | rfl | rfl | rfl <;> decide +kernel
theorem tree_good (n : Nat) (h : n = 2 ∨ n = 4) : ∃ r m, Ev (fun k => spec_l03Tree.f k n) (r, m) ∧ Good n r m := by
  refine named (fun k => spec_l03Tree.mono _ k) ?_
  rcases h with rfl | rfl <;> decide +kernel
def permO (n : Nat) : Option (List Int) → Bool
  | some r => r.isPerm (asc n)
  | none => false
theorem same_good (n : Nat) (h1 : 1 ≤ n) (h2 : n ≤ 6) : ∃ r, Ev (fun k => spec_l03Same.f k n) r ∧ r.Perm (asc n) := by
  have key : permO n (spec_l03Same.f 100 n) = true := by
    have : n = 1 ∨ n = 2 ∨ n = 3 ∨ n = 4 ∨ n = 5 ∨ n = 6 := by omega
    rcases this with rfl | rfl | rfl | rfl | rfl | rfl <;> decide +kernel
  cases hF : spec_l03Same.f 100 n with
  | none => rw [hF] at key; exact absurd key (by simp [permO])
  | some r =>
    rw [hF] at key
    exact ⟨r, Ev.mono (fun k => spec_l03Same.mono _ k) 100 hF, List.isPerm_iff.1 key⟩
theorem asc_succ (i : Nat) : asc (i : Int) ++ [(i : Int)] = asc ((i + 1 : Nat) : Int) := by
  unfold asc
  simp [List.range_succ]
theorem asc_zero : asc 0 = [] := rfl
theorem next_seed (a : Int) (h0 : 0 ≤ a) (h1 : a < 2147483647) : ∃ t, spec_l01Next.f a = some t ∧ 0 ≤ t ∧ t < 2147483647 := by
  unfold spec_l01Next.f
  rw [w64 (by omega) (by omega)]
  have := tmod_ok (48271 * a) 2147483647 (by omega) (by omega)
  exact ⟨_, rfl, this.1, this.2⟩
theorem swap_perm (l : List Int) (i j : Nat) (hi : i < l.length) (hj : j < l.length) : ((l.set i (rd l (j : Int))).set j (rd l (i : Int))).Perm l := by
  rw [rd_get hi, rd_get hj]
  exact List.set_set_perm hi hj
theorem order_l1 (n : Nat) (hn : n ≤ 6) : ∀ (d : Nat) (seed : Int) (l : List Int), d < n → 0 ≤ seed → seed < 2147483647 → l.length = n → ∃ r s, Ev (fun k => spec_l01Order.l1 k seed l d) (r, s) ∧ r.Perm l ∧ 0 ≤ s ∧ s < 2147483647 := by
  intro d
  induction d with
  | zero =>
    intro seed l _ h0 h1 hl
    refine ⟨l, seed, Ev.step (Ev.const (o := some (l, seed)) rfl) (fun k => ?_), List.Perm.refl _, h0, h1⟩
    simp only [spec_l01Order.l1]
    rw [if_neg (by omega)]
  | succ d ih =>
    intro seed l hd h0 h1 hl
    obtain ⟨t, et, ht0, ht1⟩ := next_seed seed h0 h1
    have hm := tmod_ok t ((d + 1 : Nat) + 1) ht0 (by omega)
    obtain ⟨j, hj⟩ : ∃ j : Nat, (j : Int) = Int.tmod t (((d + 1 : Nat) : Int) + 1) := ⟨(Int.tmod t (((d + 1 : Nat) : Int) + 1)).toNat, by omega⟩
    have hp := swap_perm l (d + 1) j (by omega) (by omega)
    obtain ⟨r, s, he, h2, h3, h4⟩ := ih t ((l.set (d + 1) (rd l (j : Int))).set j (rd l ((d + 1 : Nat) : Int))) (by omega) ht0 ht1 (by simp [hl])
    refine ⟨r, s, Ev.step he (fun k => ?_), h2.trans hp, h3, h4⟩
    simp only [spec_l01Order.l1]
    rw [if_pos (by omega), et, Option.bind_some, w64 (x := ((d + 1 : Nat) : Int) + 1) (by omega) (by omega), if_neg (by omega), if_pos (by omega), if_pos (by omega), ← hj, if_pos (by omega), if_pos (by omega), w64 (by omega) (by omega), Int.toNat_natCast, Int.toNat_natCast, show ((d + 1 : Nat) : Int) - 1 = (d : Int) from by omega]
theorem order_l0 (n : Nat) (h1 : 1 ≤ n) (hn : n ≤ 6) (seed : Int) (h0 : 0 ≤ seed) (hs : seed < 2147483647) : ∀ (d i : Nat), n - i = d → i ≤ n → ∃ r s, Ev (fun k => spec_l01Order.l0 k seed n (asc i) i) (r, s) ∧ r.Perm (asc n) ∧ 0 ≤ s ∧ s < 2147483647 := by
  intro d
  induction d with
  | zero =>
    intro i hd hi
    obtain rfl : i = n := by omega
    obtain ⟨r, s, he, h2, h3, h4⟩ := order_l1 i hn (i - 1) seed (asc i) (by omega) h0 hs (by rw [asc_length]; omega)
    refine ⟨r, s, Ev.step he (fun k => ?_), h2, h3, h4⟩
    simp only [spec_l01Order.l0]
    rw [if_neg (by omega), w64 (by omega) (by omega), show (i : Int) - 1 = ((i - 1 : Nat) : Int) from by omega]
  | succ d ih =>
    intro i hd hi
    obtain ⟨r, s, he, h2, h3, h4⟩ := ih (i + 1) (by omega) (by omega)
    refine ⟨r, s, Ev.step he (fun k => ?_), h2, h3, h4⟩
    simp only [spec_l01Order.l0]
    rw [if_pos (by omega), if_pos (by rw [asc_length]; omega), asc_succ, w64 (by omega) (by omega), show (i : Int) + 1 = ((i + 1 : Nat) : Int) from by omega]
theorem order_ok (n : Nat) (h1 : 1 ≤ n) (hn : n ≤ 6) (seed : Int) (h0 : 0 ≤ seed) (hs : seed < 2147483647) : ∃ r s, Ev (fun k => spec_l01Order.f k seed n) (r, s) ∧ r.Perm (asc n) ∧ 0 ≤ s ∧ s < 2147483647 :=
  order_l0 n h1 hn seed h0 hs n 0 (by omega) (by omega)
theorem seed_l0 (n : Nat) (h1 : 1 ≤ n) (hn : n ≤ 6) : ∀ (d i : Nat) (seed : Int) (rows : List (List Int)), n - i = d → i ≤ n → 0 ≤ seed → seed < 2147483647 → rows.length = i → (∀ x ∈ rows, x.Perm (asc n)) → ∃ r m, Ev (fun k => spec_l03Seed.l0 k n seed i rows) (r, m) ∧ Good n r m := by
  intro d
  induction d with
  | zero =>
    intro i seed rows hd hi h0 hs hl hr
    obtain rfl : i = n := by omega
    obtain ⟨m, s, he, hm, _, _⟩ := order_ok i h1 hn seed h0 hs
    refine ⟨rows, m, Ev.step (Ev.bind (G := fun _ bt => some (rows, bt.1)) he (Ev.const rfl)) (fun k => ?_), hl, hr, hm⟩
    simp only [spec_l03Seed.l0]
    rw [if_neg (by omega)]
  | succ d ih =>
    intro i seed rows hd hi h0 hs hl hr
    obtain ⟨m, s, he, hm, hs0, hs1⟩ := order_ok n h1 hn seed h0 hs
    obtain ⟨r, ms, he2, hg⟩ := ih (i + 1) s (rows ++ [m]) (by omega) (by omega) hs0 hs1 (by simp [hl]) (by
      intro x hx
      rcases List.mem_append.1 hx with hx | hx
      · exact hr x hx
      · rw [List.mem_singleton.1 hx]; exact hm)
    refine ⟨r, ms, Ev.step (Ev.bind (G := fun k bt => if rows.length < 5864062014805 then spec_l03Seed.l0 k n bt.2 (wrap64 ((i : Int) + 1)) (rows ++ [bt.1]) else none) he ?_) (fun k => ?_), hg⟩
    · refine Ev.congr he2 (fun k => ?_)
      rw [if_pos (by omega), w64 (by omega) (by omega), show (i : Int) + 1 = ((i + 1 : Nat) : Int) from by omega]
    · simp only [spec_l03Seed.l0]
      rw [if_pos (by omega)]
theorem seed_good (n : Nat) (h1 : 1 ≤ n) (hn : n ≤ 6) (seed : Int) (h0 : 0 ≤ seed) (hs : seed < 2147483647) : ∃ r m, Ev (fun k => spec_l03Seed.f k n seed) (r, m) ∧ Good n r m :=
  seed_l0 n h1 hn n 0 seed [] (by omega) (by omega) h0 hs rfl (by simp)
theorem Good.put {n : Nat} {r : List (List Int)} {m : List Int} (h : Good n r m) (j : Nat) {o : List Int} (ho : o.Perm (asc n)) : Good n (r.set j o) m :=
  ⟨by rw [List.length_set]; exact h.len, fun x hx => by
    rcases List.mem_or_eq_of_mem_set hx with hx | rfl
    · exact h.row x hx
    · exact ho, h.miss⟩
theorem one_ok (l : List Int) (hl : l.length ≤ 140737488351232) (hb : ∀ x ∈ l, 0 ≤ x ∧ x < 256) (p q n : Int) (hp : 0 ≤ p) (hp' : p < 4611686018427387000) (hn : 1 ≤ n) :
    ∃ b p' q', spec_l00Src_one.f l p q n = some (b, p', q') ∧ p ≤ p' ∧ p' ≤ p + 2 := by
  unfold spec_l00Src_one.f
  obtain ⟨v, p', q', e, _, _, h2, h3⟩ := pick_ok l hl hb p q n hp hp' hn
  rw [e, Option.bind_some]
  exact ⟨_, _, _, rfl, h2, h3⟩
theorem drawOf_j0 (l : List Int) (hl : l.length ≤ 140737488351232) (hb : ∀ x ∈ l, 0 ≤ x ∧ x < 256) (p q : Int) (n : Nat) (h1 : 1 ≤ n) (hn : n ≤ 6) (hp : 0 ≤ p) (hp' : p < 1000000) :
    ∃ r m p' q', Ev (fun k => spec_l03DrawOf.j0 k n l p q) (r, m, p', q') ∧ Good n r m ∧ p ≤ p' ∧ p' ≤ p + 8 := by
  obtain ⟨r, m, eL, gL⟩ := lru_good n h1 hn
  obtain ⟨v1, p1, q1, e1, hv10, hv11, hp1, hp1'⟩ := pick_ok l hl hb p q n hp (by omega) (by omega)
  obtain ⟨v2, p2, q2, e2, hv20, hv21, hp2, hp2'⟩ := pick_ok l hl hb p1 q1 50000 (by omega) (by omega) (by omega)
  obtain ⟨o, s, eO, hO, _, _⟩ := order_ok n h1 hn (1 + v2) (by omega) (by omega)
  obtain ⟨b3, p3, q3, e3, hp3, hp3'⟩ := one_ok l hl hb p2 q2 2 (by omega) (by omega) (by omega)
  obtain ⟨b4, p4, q4, e4, hp4, hp4'⟩ := one_ok l hl hb p3 q3 2 (by omega) (by omega) (by omega)
  obtain ⟨sm, eS, hS⟩ := same_good n h1 hn
  have hw : wrap64 (1 + v2) = 1 + v2 := w64 (by omega) (by omega)
  have hrl := gL.len
  obtain ⟨j, hj⟩ : ∃ j : Nat, (j : Int) = v1 := ⟨v1.toNat, by omega⟩
  subst hj
  have hjr : (j : Int) < (r.length : Int) := by omega
  obtain ⟨ka, ha⟩ := eL
  obtain ⟨kb, hb'⟩ := eO
  obtain ⟨kc, hc⟩ := eS
  have key : ∃ R, (∀ k, max ka (max kb kc) ≤ k → spec_l03DrawOf.j0 (k + 1) n l p q = some R) ∧ Good n R.1 R.2.1 ∧ p ≤ R.2.2.1 ∧ R.2.2.1 ≤ p + 8 := by
    cases b3 with
    | true =>
      refine ⟨(r.set j o, m, p3, q3), fun k hk => ?_, gL.put j hO, by dsimp only; omega, by dsimp only; omega⟩
      have ha' := ha k (by omega)
      have hb'' := hb' k (by omega)
      dsimp only at ha' hb''
      simp only [spec_l03DrawOf.j0]
      rw [ha', Option.bind_some, e1, Option.bind_some]
      dsimp only
      rw [e2, Option.bind_some]
      dsimp only
      rw [hw, hb'', Option.bind_some, e3, Option.bind_some]
      dsimp only
      rw [if_pos rfl, if_pos (by omega), if_pos hjr, Int.toNat_natCast]
    | false =>
      cases b4 with
      | true =>
        refine ⟨(r.set j sm, m, p4, q4), fun k hk => ?_, gL.put j hS, by dsimp only; omega, by dsimp only; omega⟩
        have ha' := ha k (by omega)
        have hb'' := hb' k (by omega)
        have hc' := hc k (by omega)
        dsimp only at ha' hb'' hc'
        simp only [spec_l03DrawOf.j0]
        rw [ha', Option.bind_some, e1, Option.bind_some]
        dsimp only
        rw [e2, Option.bind_some]
        dsimp only
        rw [hw, hb'', Option.bind_some, e3, Option.bind_some]
        dsimp only
        rw [if_neg (by simp), e4, Option.bind_some]
        dsimp only
        rw [if_pos rfl, hc', Option.bind_some, if_pos (by omega), if_pos hjr, Int.toNat_natCast]
      | false =>
        refine ⟨(r, o, p4, q4), fun k hk => ?_, ⟨gL.len, gL.row, hO⟩, by dsimp only; omega, by dsimp only; omega⟩
        have ha' := ha k (by omega)
        have hb'' := hb' k (by omega)
        dsimp only at ha' hb''
        simp only [spec_l03DrawOf.j0]
        rw [ha', Option.bind_some, e1, Option.bind_some]
        dsimp only
        rw [e2, Option.bind_some]
        dsimp only
        rw [hw, hb'', Option.bind_some, e3, Option.bind_some]
        dsimp only
        rw [if_neg (by simp), e4, Option.bind_some]
        dsimp only
        rw [if_neg (by simp)]
  obtain ⟨⟨R1, R2, R3, R4⟩, h2, h3, h4, h5⟩ := key
  exact ⟨R1, R2, R3, R4, Ev.step (Ev.of _ h2) (fun k => rfl), h3, h4, h5⟩
theorem drawOf_ok (l : List Int) (hl : l.length ≤ 140737488351232) (hb : ∀ x ∈ l, 0 ≤ x ∧ x < 256) (p q : Int) (n : Nat) (h1 : 1 ≤ n) (hn : n ≤ 6) (hp : 0 ≤ p) (hp' : p < 100000) :
    ∃ r m p' q', Ev (fun k => spec_l03DrawOf.f k l p q n) (r, m, p', q') ∧ Good n r m ∧ p ≤ p' ∧ p' ≤ p + 10 := by
  obtain ⟨v, p1, q1, e1, hv0, hv1, hp1, hp1'⟩ := pick_ok l hl hb p q 7 hp (by omega) (by omega)
  obtain ⟨v2, p2, q2, e2, hv20, hv21, hp2, hp2'⟩ := pick_ok l hl hb p1 q1 50000 (by omega) (by omega) (by omega)
  obtain ⟨rJ, mJ, pJ, qJ, eJ, gJ, hpJ, hpJ'⟩ := drawOf_j0 l hl hb p1 q1 n h1 hn (by omega) (by omega)
  obtain ⟨r0, m0, e0, g0⟩ := lru_good n h1 hn
  obtain ⟨rF, mF, eF, gF⟩ := fifo_good n h1 hn
  obtain ⟨rM, mM, eM, gM⟩ := mru_good n h1 hn
  obtain ⟨rS, mS, eS, gS⟩ := seed_good n h1 hn (1 + v2) (by omega) (by omega)
  have hw : wrap64 (1 + v2) = 1 + v2 := w64 (by omega) (by omega)
  have hcase : v = 0 ∨ v = 1 ∨ v = 2 ∨ v = 3 ∨ v = 4 ∨ (v = 5 ∨ v = 6) := by omega
  rcases hcase with rfl | rfl | rfl | rfl | rfl | h56
  · refine ⟨r0, m0, p1, q1, Ev.congr (Ev.bind (G := fun _ bt => some (bt.1, bt.2, p1, q1)) e0 (Ev.const rfl)) (fun k => ?_), g0, hp1, by omega⟩
    unfold spec_l03DrawOf.f
    rw [e1, Option.bind_some]
    dsimp only
    rw [if_pos rfl]
  · refine ⟨rF, mF, p1, q1, Ev.congr (Ev.bind (G := fun _ bt => some (bt.1, bt.2, p1, q1)) eF (Ev.const rfl)) (fun k => ?_), gF, hp1, by omega⟩
    unfold spec_l03DrawOf.f
    rw [e1, Option.bind_some]
    dsimp only
    rw [if_neg (by decide), if_pos rfl]
  · refine ⟨rM, mM, p1, q1, Ev.congr (Ev.bind (G := fun _ bt => some (bt.1, bt.2, p1, q1)) eM (Ev.const rfl)) (fun k => ?_), gM, hp1, by omega⟩
    unfold spec_l03DrawOf.f
    rw [e1, Option.bind_some]
    dsimp only
    rw [if_neg (by decide), if_neg (by decide), if_pos rfl]
  · by_cases h24 : n = 2 ∨ n = 4
    · obtain ⟨rT, mT, eT, gT⟩ := tree_good n h24
      refine ⟨rT, mT, p1, q1, Ev.congr (Ev.bind (G := fun _ bt => some (bt.1, bt.2, p1, q1)) eT (Ev.const rfl)) (fun k => ?_), gT, hp1, by omega⟩
      unfold spec_l03DrawOf.f
      rw [e1, Option.bind_some]
      dsimp only
      rw [if_neg (by decide), if_neg (by decide), if_neg (by decide), if_pos rfl]
      rcases h24 with rfl | rfl
      · rw [if_pos (by omega)]
      · rw [if_neg (by omega), if_pos (by omega)]
    · refine ⟨rJ, mJ, pJ, qJ, Ev.congr eJ (fun k => ?_), gJ, by omega, by omega⟩
      unfold spec_l03DrawOf.f
      rw [e1, Option.bind_some]
      dsimp only
      rw [if_neg (by decide), if_neg (by decide), if_neg (by decide), if_pos rfl, if_neg (by omega), if_neg (by omega)]
  · refine ⟨rS, mS, p2, q2, Ev.congr (Ev.bind (G := fun _ bt => some (bt.1, bt.2, p2, q2)) eS (Ev.const rfl)) (fun k => ?_), gS, by omega, by omega⟩
    unfold spec_l03DrawOf.f
    rw [e1, Option.bind_some]
    dsimp only
    rw [if_neg (by decide), if_neg (by decide), if_neg (by decide), if_neg (by decide), if_pos rfl, e2, Option.bind_some]
    dsimp only
    rw [hw]
  · refine ⟨rJ, mJ, pJ, qJ, Ev.congr eJ (fun k => ?_), gJ, by omega, by omega⟩
    unfold spec_l03DrawOf.f
    rw [e1, Option.bind_some]
    dsimp only
    rw [if_neg (by omega), if_neg (by omega), if_neg (by omega), if_neg (by omega), if_neg (by omega)]
theorem drawOk_ok (l : List Int) (hl : l.length ≤ 140737488351232) (hb : ∀ x ∈ l, 0 ≤ x ∧ x < 256) (p q : Int) (hp : 0 ≤ p) (hp' : p < 10000) :
    ∃ (n : Nat) (r : List (List Int)) (m : List Int) (p' q' : Int), Ev (fun k => spec_l03DrawOk.f k l p q) (r, m, p', q') ∧ Good n r m ∧ 1 ≤ n ∧ n ≤ 6 ∧ p ≤ p' ∧ p' ≤ p + 20 := by
  obtain ⟨v, p1, q1, e1, hv0, hv1, hp1, hp1'⟩ := pick_ok l hl hb p q 4 hp (by omega) (by omega)
  obtain ⟨b, p2, q2, e2, hp2, hp2'⟩ := one_ok l hl hb p1 q1 6 (by omega) (by omega) (by omega)
  cases b with
  | true =>
    obtain ⟨r, m, p3, q3, e3, g3, hp3, hp3'⟩ := drawOf_ok l hl hb p2 q2 6 (by omega) (by omega) (by omega) (by omega)
    refine ⟨6, r, m, p3, q3, Ev.congr (Ev.bind (G := fun _ bt => some (bt.1, bt.2.1, bt.2.2.1, bt.2.2.2)) e3 (Ev.const rfl)) (fun k => ?_), g3, by omega, by omega, by omega, by omega⟩
    unfold spec_l03DrawOk.f
    rw [e1, Option.bind_some]
    dsimp only
    rw [e2, Option.bind_some]
    dsimp only
    rw [if_pos rfl]
    rfl
  | false =>
    obtain ⟨n, hn⟩ : ∃ n : Nat, (n : Int) = 1 + v := ⟨(1 + v).toNat, by omega⟩
    obtain ⟨r, m, p3, q3, e3, g3, hp3, hp3'⟩ := drawOf_ok l hl hb p2 q2 n (by omega) (by omega) (by omega) (by omega)
    refine ⟨n, r, m, p3, q3, Ev.congr (Ev.bind (G := fun _ bt => some (bt.1, bt.2.1, bt.2.2.1, bt.2.2.2)) e3 (Ev.const rfl)) (fun k => ?_), g3, by omega, by omega, by omega, by omega⟩
    unfold spec_l03DrawOk.f
    rw [e1, Option.bind_some]
    dsimp only
    rw [e2, Option.bind_some]
    dsimp only
    rw [if_neg (by simp), w64 (by omega) (by omega), ← hn]
theorem B10Policy_ok (l : List Int) (hl : l.length ≤ 140737488351232) (hb : ∀ x ∈ l, 0 ≤ x ∧ x < 256) :
    ∃ (n : Nat) (r : List (List Int)) (m : List Int), Ev (fun k => spec_B10Policy.f k l) (r, m) ∧ Good n r m ∧ 1 ≤ n ∧ n ≤ 6 := by
  obtain ⟨n, r, m, p', q', e, g, h1, h2, _, _⟩ := drawOk_ok l hl hb 0 0 (by omega) (by omega)
  refine ⟨n, r, m, Ev.congr (Ev.bind (G := fun _ bt => some (bt.1, bt.2.1)) e (Ev.const rfl)) (fun k => ?_), g, h1, h2⟩
  unfold spec_B10Policy.f spec_l00From.f
  rw [Option.bind_some]
/-! ### Contents and their steps -/
structure Cont (n : Nat) (c : List Int) : Prop where
  len : c.length = n
  rng : ∀ x ∈ c, -1 ≤ x ∧ x ≤ 63
  nod : (toldOf c).Nodup
theorem toldOf_perm {a b : List Int} (h : a.Perm b) : (toldOf a).Perm (toldOf b) := h.filter _
theorem Cont.perm {n : Nat} {a b : List Int} (h : Cont n a) (hp : b.Perm a) : Cont n b :=
  ⟨by rw [hp.length_eq]; exact h.len, fun x hx => h.rng x (hp.mem_iff.1 hx), (toldOf_perm hp).nodup_iff.2 h.nod⟩
theorem map_perm {n : Nat} {ages c : List Int} (hp : ages.Perm (asc n)) (hc : c.length = n) : (ages.map (rd c)).Perm c := by
  have h1 : (asc (n : Int)).map (rd c) = c := by rw [map_rd_range c n (by omega), ← hc, List.take_length]
  have h2 := hp.map (rd c)
  rw [h1] at h2
  exact h2
theorem cont_empty (n : Nat) : Cont n (List.replicate n (-1)) := by
  refine ⟨by simp, fun x hx => ?_, ?_⟩
  · rw [(List.mem_replicate.1 hx).2]; omega
  · have : toldOf (List.replicate n (-1)) = [] := by
      unfold toldOf
      rw [List.filter_eq_nil_iff]
      intro x hx
      rw [(List.mem_replicate.1 hx).2]
      decide
    rw [this]
    exact List.nodup_nil
theorem set_last (c : List Int) (a : Int) (h : 0 < c.length) : c.set (c.length - 1) a = c.take (c.length - 1) ++ [a] := by
  rw [List.set_eq_take_append_cons_drop, if_pos (by omega), List.drop_of_length_le (by omega)]
theorem cont_miss {n : Nat} {c : List Int} (h : Cont n c) (h1 : 1 ≤ n) {a : Int} (h0 : 0 ≤ a) (ha : a < 64) (hn : a ∉ c) : Cont n (c.set (n - 1) a) := by
  have hl := h.len
  subst hl
  rw [set_last c a h1]
  refine ⟨by simp; omega, fun x hx => ?_, ?_⟩
  · rcases List.mem_append.1 hx with hx | hx
    · exact h.rng x (List.mem_of_mem_take hx)
    · rw [List.mem_singleton.1 hx]; omega
  · have e : toldOf (c.take (c.length - 1) ++ [a]) = toldOf (c.take (c.length - 1)) ++ [a] := by
      unfold toldOf
      rw [List.filter_append]
      congr 1
      have : ¬ a < 0 := by omega
      simp [this]
    rw [e, List.nodup_append]
    refine ⟨List.Nodup.sublist (List.Sublist.filter _ (List.take_sublist _ _)) h.nod, by simp, ?_⟩
    intro x hx y hy exy
    rw [List.mem_singleton.1 hy] at exy
    unfold toldOf at hx
    exact hn (exy ▸ List.mem_of_mem_take (List.mem_filter.1 hx).1)
theorem dis_nd : ∀ (l : List Int), l.Nodup → dis l = l
  | [], _ => rfl
  | a :: r, h => by
    rw [List.nodup_cons] at h
    rw [dis_cons, dis_nd r h.2]
    congr 1
    rw [List.filter_eq_self]
    intro x hx
    have : x ≠ a := by rintro rfl; exact h.1 hx
    simpa using this
theorem rd_of_mem {c : List Int} {a : Int} (h : a ∈ c) : ∃ j, j < c.length ∧ rd c (j : Int) = a := by
  obtain ⟨j, hj, e⟩ := List.mem_iff_getElem.1 h
  exact ⟨j, hj, by rw [rd_get hj]; exact e⟩
theorem step_ok {n : Nat} {rows : List (List Int)} {ms c : List Int} (G : Good n rows ms) (h1 : 1 ≤ n) (h2 : n ≤ 6) (h : Cont n c) (a : Int) (h0 : 0 ≤ a) (ha : a < 64) :
    ∃ c' o, (∀ k, 10 ≤ k → impl_Policy_step.f k rows ms c a = some (c', o, decide (a ∈ c))) ∧ Cont n c' ∧ a ∈ c' ∧ (a ∈ c → o = -1) ∧ (a ∉ c → o = rd c ((n - 1 : Nat) : Int)) ∧ (∀ x ∈ c', x = a ∨ x ∈ c) := by
  have hcl := h.len
  have key : ∃ c' o, impl_Policy_step.f 10 rows ms c a = some (c', o, decide (a ∈ c)) ∧ Cont n c' ∧ a ∈ c' ∧ (a ∈ c → o = -1) ∧ (a ∉ c → o = rd c ((n - 1 : Nat) : Int)) ∧ (∀ x ∈ c', x = a ∨ x ∈ c) := by
    by_cases hm : a ∈ c
    · obtain ⟨j, hj, hja⟩ := rd_of_mem hm
      have hrow : ∀ i, i < n → (rows.getD i []).Perm (asc n) := fun i hi => by
        rw [List.getD_eq_getElem?_getD, List.getElem?_eq_getElem (by rw [G.len]; exact hi)]
        exact G.row _ (List.getElem_mem _)
      obtain ⟨i, hi, hia, e⟩ := step_hit rows ms n j c a hcl.symm h2 G.len 10 (by omega) (fun i hi => by
        have hp := hrow i hi
        refine ⟨by rw [hp.length_eq, asc_length]; omega, fun x hx => asc_mem (hp.mem_iff.1 hx)⟩) hj hja
      have hp := map_perm (hrow i (by omega)) hcl
      refine ⟨_, _, by rw [e, decide_eq_true hm], h.perm hp, hp.mem_iff.2 hm, fun _ => rfl, fun hq => absurd hm hq, fun x hx => .inr (hp.mem_iff.1 hx)⟩
    · have hA : ∀ j, j < c.length → rd c (j : Int) ≠ a := fun j hj e => hm (by rw [rd_get hj] at e; rw [← e]; exact List.getElem_mem _)
      have hp : (ms.map (rd (c.set (n - 1) a))).Perm (c.set (n - 1) a) := map_perm G.miss (by simp [hcl])
      have hml : ms.length = n := by rw [G.miss.length_eq, asc_length]; omega
      refine ⟨ms.map (rd (c.set (n - 1) a)), rd c ((n - 1 : Nat) : Int), ?_, (cont_miss h h1 h0 ha hm).perm hp, hp.mem_iff.2 ?_, fun hq => absurd hq hm, fun _ => rfl, fun x hx => ?_⟩
      · unfold impl_Policy_step.f
        rcases index_ok c a (by omega) 10 (by omega) with ⟨j, hj, hja, e⟩ | ⟨_, e⟩
        · exact absurd hja (hA j hj)
        · rw [e, Option.bind_some, if_neg (by omega), decide_eq_false hm]
          unfold slices_Clone_int64_int64.f
          rw [if_pos (by omega), Option.bind_some, w64 (by omega) (by omega), if_pos (by omega), if_pos (by omega), show (c.length : Int) - 1 = ((n - 1 : Nat) : Int) from by omega, Int.toNat_natCast,
            permuted_ok _ _ (by simp; omega) (by omega) (fun x hx => by have := asc_mem (G.miss.mem_iff.1 hx); simp; omega) 10 (by omega), Option.bind_some]
      · rw [← hcl, set_last c a (by omega)]
        simp
      · have hx' := hp.mem_iff.1 hx
        rcases List.mem_or_eq_of_mem_set hx' with hx' | rfl
        · exact .inr hx'
        · exact .inl rfl
  obtain ⟨c', o, e, h3⟩ := key
  exact ⟨c', o, fun k hk => at_rounds (g := fun k => impl_Policy_step.f k rows ms c a) (fun k => impl_Policy_step.mono _ _ _ _ k) hk e, h3⟩
/-! ### Runs -/
def stp (rows : List (List Int)) (ms c : List Int) (a : Int) : List Int × Int × Bool := (impl_Policy_step.f 10 rows ms c a).getD ([], 0, false)
theorem stp_ok {n : Nat} {rows : List (List Int)} {ms c : List Int} (G : Good n rows ms) (h1 : 1 ≤ n) (h2 : n ≤ 6) (h : Cont n c) (a : Int) (h0 : 0 ≤ a) (ha : a < 64) :
    (∀ k, 10 ≤ k → impl_Policy_step.f k rows ms c a = some (stp rows ms c a)) ∧ Cont n (stp rows ms c a).1 ∧ a ∈ (stp rows ms c a).1 ∧ (stp rows ms c a).2.2 = decide (a ∈ c) ∧ (a ∈ c → (stp rows ms c a).2.1 = -1) ∧ (a ∉ c → (stp rows ms c a).2.1 = rd c ((n - 1 : Nat) : Int)) ∧ (∀ x ∈ (stp rows ms c a).1, x = a ∨ x ∈ c) := by
  obtain ⟨c', o, e, h3, h4, h5, h6, h7⟩ := step_ok G h1 h2 h a h0 ha
  have es : stp rows ms c a = (c', o, decide (a ∈ c)) := by unfold stp; rw [e 10 (by omega)]; rfl
  rw [es]
  exact ⟨e, h3, h4, rfl, h5, h6, h7⟩
/-- The contents behind i uses. -/
def stt (rows : List (List Int)) (ms us : List Int) : Nat → List Int
  | 0 => List.replicate ms.length (-1)
  | i + 1 => (stp rows ms (stt rows ms us i) (rd us (i : Int))).1
def hitA (rows : List (List Int)) (ms us : List Int) (i : Nat) : Int := if (stp rows ms (stt rows ms us i) (rd us (i : Int))).2.2 = true then 1 else 0
def oldA (rows : List (List Int)) (ms us : List Int) (i : Nat) : Int := (stp rows ms (stt rows ms us i) (rd us (i : Int))).2.1
theorem stt_cont {n : Nat} {rows : List (List Int)} {ms us : List Int} (G : Good n rows ms) (h1 : 1 ≤ n) (h2 : n ≤ 6) (hu : ∀ x ∈ us, 0 ≤ x ∧ x < 64) : ∀ i, i ≤ us.length → Cont n (stt rows ms us i)
  | 0, _ => by
    have hml : ms.length = n := by rw [G.miss.length_eq, asc_length]; omega
    unfold stt
    rw [hml]
    exact cont_empty n
  | i + 1, hi => by
    have hx := hu _ (show rd us (i : Int) ∈ us from by rw [rd_get (by omega)]; exact List.getElem_mem _)
    exact (stp_ok G h1 h2 (stt_cont G h1 h2 hu i (by omega)) _ hx.1 hx.2).2.1
theorem range_snoc (f : Nat → Int) (i : Nat) : (List.range i).map f ++ [f i] = (List.range (i + 1)).map f := by rw [List.range_succ, List.map_append]; rfl
theorem run_l0 {n : Nat} {rows : List (List Int)} {ms us : List Int} (G : Good n rows ms) (h1 : 1 ≤ n) (h2 : n ≤ 6) (hul : us.length ≤ 60) (hu : ∀ x ∈ us, 0 ≤ x ∧ x < 64) : ∀ (d i : Nat), us.length - i = d → i ≤ us.length →
    Ev (fun k => impl_Policy_run.l0 k (stt rows ms us i) ((List.range i).map (hitA rows ms us)) ((List.range i).map (oldA rows ms us)) us us.length i rows ms) ((List.range us.length).map (hitA rows ms us), (List.range us.length).map (oldA rows ms us), stt rows ms us us.length) := by
  intro d
  induction d with
  | zero =>
    intro i hd hi
    obtain rfl : i = us.length := by omega
    refine Ev.step (Ev.const (o := some _) rfl) (fun k => ?_)
    simp only [impl_Policy_run.l0]
    rw [if_neg (by omega)]
  | succ d ih =>
    intro i hd hi
    obtain ⟨k0, hk0⟩ := ih (i + 1) (by omega) (by omega)
    have hx := hu _ (show rd us (i : Int) ∈ us from by rw [rd_get (by omega)]; exact List.getElem_mem _)
    obtain ⟨e, _, _, _, _, _⟩ := stp_ok G h1 h2 (stt_cont G h1 h2 hu i (by omega)) _ hx.1 hx.2
    refine ⟨max k0 10 + 1, fun k hk => ?_⟩
    obtain ⟨k, rfl⟩ : ∃ j, k = j + 1 := ⟨k - 1, by omega⟩
    have e1 := hk0 k (by omega)
    dsimp only at e1 ⊢
    simp only [impl_Policy_run.l0]
    have hl1 : ((List.range i).map (hitA rows ms us)).length < 17592186044416 := by simp; omega
    have hl2 : ((List.range i).map (oldA rows ms us)).length < 17592186044416 := by simp; omega
    rw [if_pos (by omega), if_pos (by omega), if_pos (by omega), e k (by omega), Option.bind_some, if_pos hl1, if_pos hl2, if_pos hl1, if_pos hl2, w64 (by omega) (by omega), show (i : Int) + 1 = ((i + 1 : Nat) : Int) from by omega]
    rw [← range_snoc, ← range_snoc, show stt rows ms us (i + 1) = (stp rows ms (stt rows ms us i) (rd us (i : Int))).1 from rfl,
      show hitA rows ms us i = if (stp rows ms (stt rows ms us i) (rd us (i : Int))).2.2 = true then 1 else 0 from rfl,
      show oldA rows ms us i = (stp rows ms (stt rows ms us i) (rd us (i : Int))).2.1 from rfl] at e1
    cases hh : (stp rows ms (stt rows ms us i) (rd us (i : Int))).2.2 with
    | true =>
      rw [hh, if_pos rfl] at e1
      rw [if_pos rfl]
      exact e1
    | false =>
      rw [hh, if_neg (by simp)] at e1
      rw [if_neg (by simp)]
      exact e1
theorem run_ok {n : Nat} {rows : List (List Int)} {ms us : List Int} (G : Good n rows ms) (h1 : 1 ≤ n) (h2 : n ≤ 6) (hul : us.length ≤ 60) (hu : ∀ x ∈ us, 0 ≤ x ∧ x < 64) :
    Ev (fun k => impl_Policy_run.f k rows ms us) ((List.range us.length).map (hitA rows ms us), (List.range us.length).map (oldA rows ms us), stt rows ms us us.length) := by
  have hml : ms.length = n := by rw [G.miss.length_eq, asc_length]; omega
  refine Ev.congr (run_l0 G h1 h2 hul hu us.length 0 (by omega) (by omega)) (fun k => ?_)
  unfold impl_Policy_run.f
  rw [empty_ok _ _ (by omega), Option.bind_some]
  rfl
theorem hitA_01 (rows : List (List Int)) (ms us : List Int) (i : Nat) : hitA rows ms us i = 0 ∨ hitA rows ms us i = 1 := by
  unfold hitA; split
  · exact .inr rfl
  · exact .inl rfl
theorem sum01 (l : List Int) (h : ∀ x ∈ l, x = 0 ∨ x = 1) : 0 ≤ l.sum ∧ l.sum ≤ l.length := by
  induction l with
  | nil => simp
  | cons a r ih =>
    have h1 := ih (fun x hx => h x (List.mem_cons_of_mem _ hx))
    have h2 := h a List.mem_cons_self
    simp only [List.sum_cons, List.length_cons]
    omega
theorem sum_take_succ (l : List Int) (i : Nat) (h : i < l.length) : (l.take (i + 1)).sum = (l.take i).sum + rd l (i : Int) := by
  rw [List.take_succ_eq_append_getElem h, List.sum_append, rd_get h]
  simp
theorem mem_take01 {l : List Int} (h : ∀ x ∈ l, x = 0 ∨ x = 1) (i : Nat) : ∀ x ∈ l.take i, x = 0 ∨ x = 1 := fun x hx => h x (List.mem_of_mem_take hx)
theorem misses_l0 (l : List Int) (hl : l.length ≤ 60) (h : ∀ x ∈ l, x = 0 ∨ x = 1) : ∀ (d i : Nat), l.length - i = d → i ≤ l.length → Ev (fun k => impl_Policy_misses.l0 k ((i : Int) - (l.take i).sum) l l.length i) ((l.length : Int) - l.sum) := by
  intro d
  induction d with
  | zero =>
    intro i hd hi
    obtain rfl : i = l.length := by omega
    refine Ev.step (Ev.const (o := some _) rfl) (fun k => ?_)
    simp only [impl_Policy_misses.l0]
    rw [if_neg (by omega), List.take_length]
  | succ d ih =>
    intro i hd hi
    refine Ev.step (ih (i + 1) (by omega) (by omega)) (fun k => ?_)
    have h1 := sum01 _ (mem_take01 h i)
    have h2 : rd l (i : Int) = 0 ∨ rd l (i : Int) = 1 := h _ (by rw [rd_get (by omega)]; exact List.getElem_mem _)
    have h3 : (l.take i).length ≤ 60 := by simp; omega
    have h4 := sum_take_succ l i (by omega)
    simp only [impl_Policy_misses.l0]
    rw [if_pos (by omega), if_pos (by omega), if_pos (by omega), w64 (x := 1 - rd l (i : Int)) (by omega) (by omega), w64 (x := (i : Int) - (l.take i).sum + (1 - rd l (i : Int))) (by omega) (by omega), w64 (by omega) (by omega), show (i : Int) + 1 = ((i + 1 : Nat) : Int) from by omega, h4,
      show (i : Int) - (l.take i).sum + (1 - rd l (i : Int)) = ((i + 1 : Nat) : Int) - ((l.take i).sum + rd l (i : Int)) from by omega]
theorem hits_01 (rows : List (List Int)) (ms us : List Int) : ∀ x ∈ (List.range us.length).map (hitA rows ms us), x = 0 ∨ x = 1 := by
  intro x hx
  obtain ⟨i, _, rfl⟩ := List.mem_map.1 hx
  exact hitA_01 rows ms us i
theorem misses_f {n : Nat} {rows : List (List Int)} {ms us : List Int} (G : Good n rows ms) (h1 : 1 ≤ n) (h2 : n ≤ 6) (hul : us.length ≤ 60) (hu : ∀ x ∈ us, 0 ≤ x ∧ x < 64) :
    Ev (fun k => impl_Policy_misses.f k rows ms us) ((us.length : Int) - ((List.range us.length).map (hitA rows ms us)).sum) := by
  have hl : ((List.range us.length).map (hitA rows ms us)).length = us.length := by simp
  have h3 := misses_l0 _ (by omega) (hits_01 rows ms us) us.length 0 (by rw [hl]; omega) (by omega)
  refine Ev.bind (G := fun k (bt : List Int × List Int × List Int) => impl_Policy_misses.l0 k 0 bt.1 (bt.1.length : Int) 0) (run_ok G h1 h2 hul hu) ?_
  rw [hl] at h3
  refine Ev.congr h3 (fun k => ?_)
  dsimp only
  rw [hl]
  rfl
/-! ### Optimal replacement, told by sets -/
/-- How many uses lie ahead of the next one of a. -/
def nx (w : List Int) (a : Int) : Nat := w.findIdx (· == a)
theorem nx_self (w : List Int) (a : Int) : nx (a :: w) a = 0 := by unfold nx; simp [List.findIdx_cons]
theorem nx_ne (w : List Int) {a b : Int} (h : b ≠ a) : nx (a :: w) b = nx w b + 1 := by
  unfold nx
  have : (a == b) = false := by simpa using fun e => h e.symm
  simp [List.findIdx_cons, this]
def cnt (w : List Int) (t : Nat) (S : List Int) : Nat := S.countP fun b => decide (nx w b < t)
theorem nodup_len : ∀ {l1 l2 : List Int}, l1.Nodup → (∀ x ∈ l1, x ∈ l2) → l1.length ≤ l2.length
  | [], _, _, _ => Nat.zero_le _
  | x :: t, l2, h, hs => by
    rw [List.nodup_cons] at h
    have hx : x ∈ l2 := hs x List.mem_cons_self
    have h1 : t.length ≤ (l2.erase x).length := nodup_len h.2 (fun y hy => (List.mem_erase_of_ne (by rintro rfl; exact h.1 hy)).2 (hs y (List.mem_cons_of_mem _ hy)))
    rw [List.length_erase_of_mem hx] at h1
    have := List.length_pos_of_mem hx
    simp only [List.length_cons]
    omega
theorem countP_sub {l1 l2 : List Int} (p : Int → Bool) (h : l1.Nodup) (hs : ∀ x ∈ l1, x ∈ l2) : l1.countP p ≤ l2.countP p := by
  rw [List.countP_eq_length_filter, List.countP_eq_length_filter]
  exact nodup_len (h.filter p) (fun x hx => List.mem_filter.2 ⟨hs x (List.mem_filter.1 hx).1, (List.mem_filter.1 hx).2⟩)
/-- What is there besides a. -/
def bes (a : Int) (S : List Int) : List Int := S.filter (· != a)
theorem bes_nodup {a : Int} {S : List Int} (h : S.Nodup) : (bes a S).Nodup := h.filter _
theorem bes_mem {a x : Int} {S : List Int} : x ∈ bes a S ↔ x ∈ S ∧ x ≠ a := by unfold bes; simp [List.mem_filter]
theorem bes_not {a : Int} {S : List Int} (h : a ∉ S) : bes a S = S := by
  unfold bes
  rw [List.filter_eq_self]
  intro x hx
  have : x ≠ a := fun e => h (e ▸ hx)
  simpa using this
theorem bes_perm {a : Int} {S : List Int} (hn : S.Nodup) (h : a ∈ S) : S.Perm (a :: bes a S) := by
  unfold bes
  rw [← hn.erase_eq_filter]
  exact List.perm_cons_erase h
theorem cnt_bes (w : List Int) (t : Nat) (a : Int) {S : List Int} (hn : S.Nodup) : cnt w t S = cnt w t (bes a S) + if a ∈ S ∧ nx w a < t then 1 else 0 := by
  unfold cnt
  by_cases h : a ∈ S
  · rw [(bes_perm hn h).countP_eq, List.countP_cons]
    simp [h]
  · rw [bes_not h]
    simp [h]
theorem cnt_cons (w : List Int) (t : Nat) (a : Int) {S : List Int} (hn : S.Nodup) : cnt (a :: w) (t + 1) S = cnt w t (bes a S) + if a ∈ S then 1 else 0 := by
  have key : cnt (a :: w) (t + 1) (bes a S) = cnt w t (bes a S) := by
    unfold cnt
    refine List.countP_congr fun b hb => ?_
    rw [nx_ne w (bes_mem.1 hb).2]
    simp
  rw [cnt_bes (a :: w) (t + 1) a hn, key, nx_self]
  simp
theorem cnt_le (w : List Int) (t : Nat) (S : List Int) : cnt w t S ≤ S.length := List.countP_le_length
/-- A schedule with k places: what it holds next, and how many uses it misses (byp: what is used need not be held). -/
inductive Sch (byp : Bool) (k : Nat) : List Int → List Int → Nat → Prop
  | nil (S : List Int) : Sch byp k [] S 0
  | cons {a : Int} {w S S' : List Int} {c : Nat} (hn : S'.Nodup) (hl : S'.length ≤ k) (hs : ∀ x ∈ S', x = a ∨ x ∈ S) (ha : byp = true ∨ a ∈ S') (h : Sch byp k w S' c) : Sch byp k (a :: w) S ((if a ∈ S then 0 else 1) + c)
/-- What may be given up. -/
def may (byp : Bool) (a : Int) (B : List Int) : List Int := if byp then a :: B else B
/-- The one that gives up what is used again last. -/
inductive Bel (byp : Bool) (k : Nat) : List Int → List Int → Nat → Prop
  | nil (B : List Int) : Bel byp k [] B 0
  | hit {a : Int} {w B : List Int} {c : Nat} (ha : a ∈ B) (h : Bel byp k w B c) : Bel byp k (a :: w) B c
  | room {a : Int} {w B B' : List Int} {c : Nat} (ha : a ∉ B) (hl : B.length < k) (hp : B'.Perm (a :: B)) (h : Bel byp k w B' c) : Bel byp k (a :: w) B (c + 1)
  | full {a y : Int} {w B B' : List Int} {c : Nat} (ha : a ∉ B) (hl : B.length = k) (hy : y ∈ may byp a B) (hm : ∀ b ∈ may byp a B, nx w b ≤ nx w y) (hp : B'.Perm ((a :: B).erase y)) (h : Bel byp k w B' c) : Bel byp k (a :: w) B (c + 1)
theorem may_sub {byp : Bool} {a y : Int} {B : List Int} (h : y ∈ may byp a B) : y ∈ a :: B := by
  unfold may at h
  cases byp
  · exact List.mem_cons_of_mem _ h
  · exact h
/-- What a schedule holds next, counted. -/
theorem sch_cnt {byp : Bool} {k : Nat} {a : Int} {w S S' : List Int} (t : Nat) (hS : S.Nodup) (hn : S'.Nodup) (hl : S'.length ≤ k) (hs : ∀ x ∈ S', x = a ∨ x ∈ S) (ha : byp = true ∨ a ∈ S') :
    cnt w t S' ≤ cnt w t (bes a S) + (if nx w a < t then 1 else 0) ∧ cnt w t S' ≤ k ∧ (byp = false → cnt w t S' + 1 ≤ k + if nx w a < t then 1 else 0) := by
  have h1 : cnt w t (bes a S') ≤ cnt w t (bes a S) := countP_sub _ (bes_nodup hn) (fun x hx => by
    obtain ⟨h2, h3⟩ := bes_mem.1 hx
    exact bes_mem.2 ⟨(hs x h2).resolve_left h3, h3⟩)
  have h2 := cnt_bes w t a hn
  have h3 := cnt_le w t S'
  have h4 : (if a ∈ S' ∧ nx w a < t then 1 else 0) ≤ (if nx w a < t then 1 else 0) := by
    split
    · rename_i h; rw [if_pos h.2]; omega
    · omega
  refine ⟨by omega, by omega, fun hb => ?_⟩
  have ha' : a ∈ S' := ha.resolve_left (by simp [hb])
  have h5 := (bes_perm hn ha').length_eq
  have h6 := cnt_le w t (bes a S')
  simp only [List.length_cons] at h5
  simp only [ha', true_and] at h2
  omega
/-- What the furthest one's going leaves, counted. -/
theorem bel_cnt {w B : List Int} {y : Int} (t : Nat) (hB : B.Nodup) (hy : y ∈ B) (P : List Int) (hP : ∀ b ∈ P, nx w b ≤ nx w y) (hsub : ∀ b ∈ B, b ∈ P ∨ b = y) : cnt w t (B.erase y) = cnt w t B ∨ cnt w t (B.erase y) + 1 = B.length := by
  have hp := List.perm_cons_erase hy
  have h1 : cnt w t B = cnt w t (B.erase y) + if nx w y < t then 1 else 0 := by
    unfold cnt
    rw [hp.countP_eq, List.countP_cons]
    simp
  by_cases h : nx w y < t
  · right
    have h2 : cnt w t B = B.length := by
      unfold cnt
      rw [List.countP_eq_length]
      intro b hb
      have : nx w b ≤ nx w y := by
        rcases hsub b hb with h3 | rfl
        · exact hP b h3
        · exact Nat.le_refl _
      simp; omega
    rw [if_pos h] at h1
    omega
  · left
    rw [if_neg h] at h1
    omega
theorem cnt_perm {w : List Int} {t : Nat} {A B : List Int} (h : A.Perm B) : cnt w t A = cnt w t B := h.countP_eq _
theorem cnt_more (w : List Int) (t : Nat) (a : Int) (B : List Int) : cnt w t (a :: B) = cnt w t B + if nx w a < t then 1 else 0 := by
  unfold cnt
  rw [List.countP_cons]
  simp
/-- No schedule misses fewer uses. -/
theorem opt {byp : Bool} {k : Nat} {w B : List Int} {c' : Nat} (hb : Bel byp k w B c') : ∀ (S : List Int) (c e : Nat), Sch byp k w S c → S.Nodup → B.Nodup → S.length ≤ k → B.length ≤ k → (∀ t, cnt w t S ≤ cnt w t B + e) → c' ≤ c + e := by
  induction hb with
  | nil B => intro S c e _ _ _ _ _ _; omega
  | @hit a w B c' ha h ih =>
    intro S c e hs hS hB hSl hBl hI
    cases hs with
    | @cons _ _ _ S' c hn hl hsub ha' h2 =>
      have h0 := hI 1
      rw [cnt_cons w 0 a hS, cnt_cons w 0 a hB, if_pos ha] at h0
      by_cases hm : a ∈ S
      · rw [if_pos hm]
        have := ih S' c e h2 hn hB hl hBl (fun t => by
          have h3 := hI (t + 1)
          rw [cnt_cons w t a hS, cnt_cons w t a hB, if_pos ha, if_pos hm] at h3
          have h4 := sch_cnt (w := w) t hS hn hl hsub ha'
          have h5 := cnt_bes w t a hB
          simp only [ha, true_and] at h5
          omega)
        omega
      · rw [if_neg hm]
        have := ih S' c (e + 1) h2 hn hB hl hBl (fun t => by
          have h3 := hI (t + 1)
          rw [cnt_cons w t a hS, cnt_cons w t a hB, if_pos ha, if_neg hm] at h3
          have h4 := sch_cnt (w := w) t hS hn hl hsub ha'
          have h5 := cnt_bes w t a hB
          simp only [ha, true_and] at h5
          omega)
        omega
  | @room a w B B' c' ha hlt hp h ih =>
    intro S c e hs hS hB hSl hBl hI
    have hB' : B'.Nodup := hp.nodup_iff.2 (List.nodup_cons.2 ⟨ha, hB⟩)
    have hBl' : B'.length ≤ k := by rw [hp.length_eq, List.length_cons]; omega
    cases hs with
    | @cons _ _ _ S' c hn hl hsub ha' h2 =>
      have h0 := hI 1
      rw [cnt_cons w 0 a hS, cnt_cons w 0 a hB, if_neg ha, bes_not ha] at h0
      have hz : ∀ L : List Int, cnt w 0 L = 0 := fun L => by unfold cnt; simp
      rw [hz, hz] at h0
      by_cases hm : a ∈ S
      · rw [if_pos hm] at h0 ⊢
        have := ih S' c (e - 1) h2 hn hB' hl hBl' (fun t => by
          have h3 := hI (t + 1)
          rw [cnt_cons w t a hS, cnt_cons w t a hB, if_neg ha, if_pos hm, bes_not ha] at h3
          have h4 := sch_cnt (w := w) t hS hn hl hsub ha'
          rw [cnt_perm hp, cnt_more]
          omega)
        omega
      · rw [if_neg hm]
        have := ih S' c e h2 hn hB' hl hBl' (fun t => by
          have h3 := hI (t + 1)
          rw [cnt_cons w t a hS, cnt_cons w t a hB, if_neg ha, if_neg hm, bes_not ha] at h3
          have h4 := sch_cnt (w := w) t hS hn hl hsub ha'
          rw [cnt_perm hp, cnt_more]
          omega)
        omega
  | @full a y w B B' c' ha hk hy hmax hp h ih =>
    intro S c e hs hS hB hSl hBl hI
    have hyB := may_sub hy
    have haB : (a :: B).Nodup := List.nodup_cons.2 ⟨ha, hB⟩
    have hB' : B'.Nodup := hp.nodup_iff.2 (haB.erase y)
    have hlen : B'.length = k := by rw [hp.length_eq, List.length_erase_of_mem hyB, List.length_cons]; omega
    -- what is left of B, counted
    have hcnt : ∀ t, cnt w t B' = cnt w t B + (if nx w a < t then 1 else 0) ∨ (byp = true ∧ cnt w t B' = k) ∨ (byp = false ∧ cnt w t B' + 1 = k + if nx w a < t then 1 else 0) := by
      intro t
      rw [cnt_perm hp]
      cases byp with
      | true =>
        rcases bel_cnt t haB hyB (a :: B) hmax (fun b hb => .inl hb) with h1 | h1
        · left; rw [h1, cnt_more]
        · right; left
          rw [List.length_cons] at h1
          exact ⟨rfl, by omega⟩
      | false =>
        have hy' : y ∈ B := hy
        have hne : (a == y) = false := by
          have : a ≠ y := fun e => ha (e ▸ hy')
          simpa using this
        have he : (a :: B).erase y = a :: B.erase y := by rw [List.erase_cons, hne]; rfl
        rw [he, cnt_more]
        rcases bel_cnt t hB hy' B hmax (fun b hb => .inl hb) with h1 | h1
        · left; rw [h1]
        · right; right
          exact ⟨rfl, by omega⟩
    cases hs with
    | @cons _ _ _ S' c hn hl hsub ha' h2 =>
      have h0 := hI 1
      rw [cnt_cons w 0 a hS, cnt_cons w 0 a hB, if_neg ha, bes_not ha] at h0
      have hz : ∀ L : List Int, cnt w 0 L = 0 := fun L => by unfold cnt; simp
      rw [hz, hz] at h0
      by_cases hm : a ∈ S
      · rw [if_pos hm] at h0 ⊢
        have := ih S' c (e - 1) h2 hn hB' hl (by omega) (fun t => by
          have h3 := hI (t + 1)
          rw [cnt_cons w t a hS, cnt_cons w t a hB, if_neg ha, if_pos hm, bes_not ha] at h3
          have h4 := sch_cnt (w := w) t hS hn hl hsub ha'
          rcases hcnt t with h5 | ⟨h5, h6⟩ | ⟨h5, h6⟩
          · omega
          · omega
          · have := h4.2.2 h5; omega)
        omega
      · rw [if_neg hm]
        have := ih S' c e h2 hn hB' hl (by omega) (fun t => by
          have h3 := hI (t + 1)
          rw [cnt_cons w t a hS, cnt_cons w t a hB, if_neg ha, if_neg hm, bes_not ha] at h3
          have h4 := sch_cnt (w := w) t hS hn hl hsub ha'
          rcases hcnt t with h5 | ⟨h5, h6⟩ | ⟨h5, h6⟩
          · omega
          · omega
          · have := h4.2.2 h5; omega)
        omega
theorem opt0 {byp : Bool} {k : Nat} {w : List Int} {c c' : Nat} (hb : Bel byp k w [] c') (hs : Sch byp k w [] c) : c' ≤ c := by
  have := opt hb [] c 0 hs List.nodup_nil List.nodup_nil (Nat.zero_le _) (Nat.zero_le _) (fun t => by omega)
  omega
theorem Bel.sch {byp : Bool} {k : Nat} {w B : List Int} {c : Nat} (h : Bel byp k w B c) : B.Nodup → B.length ≤ k → Sch byp k w B c := by
  induction h with
  | nil B => intro _ _; exact .nil B
  | @hit a w B c ha h ih =>
    intro hB hl
    have h1 := Sch.cons (byp := byp) (a := a) hB hl (fun x hx => .inr hx) (.inr ha) (ih hB hl)
    rw [if_pos ha, Nat.zero_add] at h1
    exact h1
  | @room a w B B' c ha hlt hp h ih =>
    intro hB hl
    have hB' : B'.Nodup := hp.nodup_iff.2 (List.nodup_cons.2 ⟨ha, hB⟩)
    have hl' : B'.length ≤ k := by rw [hp.length_eq, List.length_cons]; omega
    have h1 := Sch.cons (byp := byp) (a := a) (S := B) hB' hl' (fun x hx => List.mem_cons.1 (hp.mem_iff.1 hx)) (.inr (hp.mem_iff.2 List.mem_cons_self)) (ih hB' hl')
    rw [if_neg ha, Nat.add_comm] at h1
    exact h1
  | @full a y w B B' c ha hk hy hm hp h ih =>
    intro hB hl
    have hyB := may_sub hy
    have haB : (a :: B).Nodup := List.nodup_cons.2 ⟨ha, hB⟩
    have hB' : B'.Nodup := hp.nodup_iff.2 (haB.erase y)
    have hl' : B'.length ≤ k := by rw [hp.length_eq, List.length_erase_of_mem hyB, List.length_cons]; omega
    have h1 := Sch.cons (byp := byp) (a := a) (S := B) hB' hl' (fun x hx => List.mem_cons.1 (List.mem_of_mem_erase (hp.mem_iff.1 hx))) (by
      cases byp with
      | true => exact .inl rfl
      | false =>
        have hy' : y ∈ B := hy
        exact .inr (hp.mem_iff.2 ((List.mem_erase_of_ne (by rintro rfl; exact ha hy')).2 List.mem_cons_self))) (ih hB' hl')
    rw [if_neg ha, Nat.add_comm] at h1
    exact h1
theorem Sch.up {byp : Bool} {k k' : Nat} (hk : k ≤ k') {w S : List Int} {c : Nat} (h : Sch byp k w S c) : Sch byp k' w S c := by
  induction h with
  | nil S => exact .nil S
  | cons hn hl hs ha h ih => exact .cons hn (Nat.le_trans hl hk) hs ha ih
theorem Sch.free {byp : Bool} {k : Nat} {w S : List Int} {c : Nat} (h : Sch byp k w S c) : Sch true k w S c := by
  induction h with
  | nil S => exact .nil S
  | cons hn hl hs ha h ih => exact .cons hn hl hs (.inl rfl) ih
/-- One place more holds what is used, too. -/
theorem Sch.hold {byp : Bool} {k : Nat} {w S : List Int} {c : Nat} (h : Sch byp k w S c) : ∀ S2 : List Int, (∀ x ∈ S, x ∈ S2) → ∃ c2, c2 ≤ c ∧ Sch false (k + 1) w S2 c2 := by
  induction h with
  | nil S => intro S2 _; exact ⟨0, Nat.le_refl _, .nil S2⟩
  | @cons a w S S' c hn hl hs ha h ih =>
    intro S2 h2
    by_cases hm : a ∈ S'
    · obtain ⟨c2, h3, h4⟩ := ih S' (fun x hx => hx)
      refine ⟨_, ?_, Sch.cons (a := a) (S := S2) hn (by omega) (fun x hx => (hs x hx).imp id (h2 x)) (.inr hm) h4⟩
      by_cases hq : a ∈ S
      · rw [if_pos (h2 a hq), if_pos hq]; omega
      · rw [if_neg hq]; split <;> omega
    · obtain ⟨c2, h3, h4⟩ := ih (a :: S') (fun x hx => List.mem_cons_of_mem _ hx)
      refine ⟨_, ?_, Sch.cons (a := a) (S := S2) (List.nodup_cons.2 ⟨hm, hn⟩) (by simp; omega) (fun x hx => ?_) (.inr List.mem_cons_self) h4⟩
      · by_cases hq : a ∈ S
        · rw [if_pos (h2 a hq), if_pos hq]; omega
        · rw [if_neg hq]; split <;> omega
      · rcases List.mem_cons.1 hx with h5 | h5
        · exact .inl h5
        · exact (hs x h5).imp id (h2 x)
/-- When an address is used next from an index on, 60 if it is not. -/
def wt (us : List Int) (a : Int) (i : Nat) : Nat := if nx (us.drop i) a < (us.drop i).length then i + nx (us.drop i) a else 60
theorem nx_le (w : List Int) (a : Int) : nx w a ≤ w.length := List.findIdx_le_length
theorem wt_le {us : List Int} (hl : us.length ≤ 60) {i : Nat} {b y : Int} (h : wt us b i ≤ wt us y i) : nx (us.drop i) b ≤ nx (us.drop i) y := by
  unfold wt at h
  have h1 := nx_le (us.drop i) b
  have h2 := nx_le (us.drop i) y
  have h3 : (us.drop i).length = us.length - i := List.length_drop
  by_cases hy : nx (us.drop i) y < (us.drop i).length
  · rw [if_pos hy] at h
    by_cases hb : nx (us.drop i) b < (us.drop i).length
    · rw [if_pos hb] at h; omega
    · rw [if_neg hb] at h; omega
  · omega
theorem set_perm {l : List Int} (hn : l.Nodup) {j : Nat} {y : Int} (hj : l[j]? = some y) (a : Int) (ha : a ∉ l) : (l.set j a).Perm ((a :: l).erase y) := by
  have hy : y ∈ l := List.mem_of_getElem? hj
  have hne : (a == y) = false := by
    have : a ≠ y := by rintro rfl; exact ha hy
    simpa using this
  rw [List.erase_cons, hne]
  simp only [Bool.false_eq_true, if_false]
  obtain ⟨hjl, hjy⟩ := List.getElem?_eq_some_iff.1 hj
  have h1 : l.set j a = l.take j ++ a :: l.drop (j + 1) := List.set_eq_take_append_cons_drop .. |>.trans (by rw [if_pos hjl])
  have h2 : l = l.take j ++ y :: l.drop (j + 1) := by
    conv => lhs; rw [← List.take_append_drop j l, List.drop_eq_getElem_cons hjl, hjy]
  have h3 : (l.take j ++ l.drop (j + 1)).Perm (l.erase y) := by
    have h4 : l.Perm (y :: (l.take j ++ l.drop (j + 1))) := by
      conv => lhs; rw [h2]
      exact List.perm_middle
    have h5 := h4.symm.trans (List.perm_cons_erase hy)
    exact h5.cons_inv
  rw [h1]
  exact List.perm_middle.trans (h3.cons a)
/-! ### The optimal replacement, as it is printed -/
theorem index_nx_loop (l : List Int) (a : Int) (hl : l.length < 1000000) : ∀ (d i k : Nat), l.length - i = d → i ≤ l.length → d < k → (∀ j, j < i → rd l (j : Int) ≠ a) →
    slices_Index_int64_int64.l0 k l a l.length i = some (if nx l a < l.length then (nx l a : Int) else -1) := by
  intro d
  induction d with
  | zero =>
    intro i k hd hi hk hA
    obtain ⟨k, rfl⟩ : ∃ j, k = j + 1 := ⟨k - 1, by omega⟩
    simp only [slices_Index_int64_int64.l0]
    rw [if_neg (by omega), if_neg]
    intro hlt
    have h1 := List.findIdx_getElem (w := hlt)
    have h2 := hA _ (by omega : nx l a < i)
    rw [rd_get hlt] at h2
    simp at h1
    exact h2 h1
  | succ d ih =>
    intro i k hd hi hk hA
    obtain ⟨k, rfl⟩ : ∃ j, k = j + 1 := ⟨k - 1, by omega⟩
    have hi' : i < l.length := by omega
    simp only [slices_Index_int64_int64.l0]
    rw [if_pos (by omega), if_pos (by omega), if_pos (by omega)]
    by_cases hx : a = rd l (i : Int)
    · have e : nx l a = i := by
        unfold nx
        rw [List.findIdx_eq hi']
        refine ⟨by rw [hx, rd_get hi']; simp, fun j hj => ?_⟩
        have := hA j hj
        rw [rd_get (by omega)] at this
        simpa using this
      rw [if_pos hx, if_pos (by omega), e]
    · rw [if_neg hx, w64 (by omega) (by omega), show (i : Int) + 1 = ((i + 1 : Nat) : Int) from by omega]
      refine ih (i + 1) k (by omega) (by omega) (by omega) (fun j hj => ?_)
      by_cases e : j = i
      · subst e; exact fun h => hx h.symm
      · exact hA j (by omega)
theorem index_nx (l : List Int) (a : Int) (hl : l.length < 1000000) (k : Nat) (hk : l.length < k) : slices_Index_int64_int64.f k l a = some (if nx l a < l.length then (nx l a : Int) else -1) :=
  index_nx_loop l a hl l.length 0 k (by omega) (by omega) hk (by simp)
theorem nx_lt {l : List Int} {a : Int} : nx l a < l.length ↔ a ∈ l := by
  unfold nx
  rw [List.findIdx_lt_length]
  constructor
  · rintro ⟨x, hx, h⟩
    have : x = a := by simpa using h
    exact this ▸ hx
  · intro h
    exact ⟨a, h, by simp⟩
theorem nx_get {l : List Int} {a : Int} (h : nx l a < l.length) : l[nx l a]? = some a := by
  have h1 := List.findIdx_getElem (w := h)
  rw [List.getElem?_eq_getElem h]
  have h2 : l[nx l a] = a := eq_of_beq h1
  rw [h2]
theorem contains_ok (l : List Int) (a : Int) (hl : l.length < 1000000) (k : Nat) (hk : l.length < k) : slices_Contains_int64_int64.f k l a = some (decide (a ∈ l)) := by
  unfold slices_Contains_int64_int64.f
  rw [index_nx l a hl k hk, Option.bind_some]
  congr 1
  by_cases h : a ∈ l
  · rw [if_pos (nx_lt.2 h), decide_eq_true h, decide_eq_true (by omega)]
  · rw [if_neg (fun e => h (nx_lt.1 e)), decide_eq_false h, decide_eq_false (by omega)]
theorem waits_ok (us : List Int) (hul : us.length ≤ 60) (a : Int) (i : Nat) (hi : i ≤ us.length) (k : Nat) (hk : 61 ≤ k) : impl_waits.f k us a i = some (wt us a i : Int) := by
  have hd : (us.drop i).length = us.length - i := List.length_drop
  unfold impl_waits.f impl_nextUse.f wt
  rw [if_pos (by omega), if_pos (by omega), Int.toNat_natCast, index_nx _ a (by omega) k (by omega), Option.bind_some]
  by_cases h : nx (us.drop i) a < (us.drop i).length
  · rw [if_pos h, if_pos h, if_neg (by omega), Option.bind_some, w64 (by omega) (by omega), if_pos (by omega)]
    congr 1
  · rw [if_neg h, if_neg h, if_pos (by omega), Option.bind_some, if_neg (by omega)]
    rfl
theorem wt_small (us : List Int) (hul : us.length ≤ 60) (a : Int) (i : Nat) (hi : i ≤ us.length) : wt us a i ≤ 60 := by
  have hd : (us.drop i).length = us.length - i := List.length_drop
  unfold wt
  split <;> omega
theorem pickN_max (cf : Int → Int → Int) (W : Int → Nat) (l : List Int) (h : ∀ x y, x ∈ l → y ∈ l → (0 < cf x y → W y ≤ W x) ∧ (¬ 0 < cf x y → W x ≤ W y)) : ∀ t, t < l.length → ∀ j, j ≤ t → W (l.getD j 0) ≤ W (pickN cf l t)
  | 0, ht, j, hj => by
    obtain rfl : j = 0 := by omega
    exact Nat.le_refl _
  | t + 1, ht, j, hj => by
    have hm : l.getD (t + 1) 0 ∈ l := by
      rw [List.getD_eq_getElem?_getD, List.getElem?_eq_getElem ht]
      exact List.getElem_mem _
    obtain ⟨h1, h2⟩ := h _ _ hm (pickN_mem cf l t (by omega))
    unfold pickN
    by_cases hq : 0 < cf (l.getD (t + 1) 0) (pickN cf l t)
    · rw [if_pos hq]
      by_cases e : j = t + 1
      · subst e; exact Nat.le_refl _
      · exact Nat.le_trans (pickN_max cf W l h t (by omega) j (by omega)) (h1 hq)
    · rw [if_neg hq]
      by_cases e : j = t + 1
      · subst e; exact h2 hq
      · exact pickN_max cf W l h t (by omega) j (by omega)
theorem set_mem (l : List Int) (x : Int) : x ∈ Lib.compact (srt l) ↔ x ∈ l := by
  obtain ⟨_, h2⟩ := compactUpTo_sorted (srt l) (srt_sorted l) (srt l).length (Nat.le_refl _)
  rw [List.take_length] at h2
  have h3 := h2 x
  have h4 : x ∈ srt l ↔ x ∈ l := (List.mergeSort_perm l _).mem_iff
  exact h3.trans h4
theorem victim_ok (us : List Int) (hul : us.length ≤ 60) (inn : List Int) (hil : inn.length < 1000) (hne : inn ≠ []) (i : Nat) (hi : i ≤ us.length) :
    ∃ y, (∀ k, 61 ≤ k → impl_victim.f k us inn i = some y) ∧ y ∈ inn ∧ ∀ b ∈ inn, nx (us.drop i) b ≤ nx (us.drop i) y := by
  have hs := set_mem inn
  have hpos : 0 < (Lib.compact (srt inn)).length := by
    obtain ⟨x, hx⟩ := List.exists_mem_of_ne_nil inn hne
    exact List.length_pos_of_mem ((hs x).2 hx)
  have key : ∃ y, impl_victim.f 61 us inn i = some y ∧ y ∈ inn ∧ ∀ b ∈ inn, nx (us.drop i) b ≤ nx (us.drop i) y := by
    have hw := fun a => waits_ok us hul a i hi 61 (Nat.le_refl _)
    have hlt : (Lib.compact (srt inn)).length - 1 < (Lib.compact (srt inn)).length := by omega
    refine ⟨pickN (impl_victim.cf 61 us i) (Lib.compact (srt inn)) ((Lib.compact (srt inn)).length - 1), ?_, (hs _).1 (pickN_mem _ _ _ hlt), fun b hb => ?_⟩
    · unfold impl_victim.f
      rw [if_pos ⟨by omega, hpos, List.all_eq_true.2 fun a _ => by rw [hw a]; rfl⟩]
    · obtain ⟨j, hj, e⟩ := List.mem_iff_getElem.1 ((hs b).2 hb)
      refine wt_le hul ?_
      have h1 := pickN_max (impl_victim.cf 61 us i) (fun x => wt us x i) (Lib.compact (srt inn)) (fun x y _ _ => by
        have wx := wt_small us hul x i hi
        have wy := wt_small us hul y i hi
        unfold impl_victim.cf
        rw [hw x, hw y]
        simp only [Option.getD_some]
        have e1 : wrap64 ((wt us x i : Int) - (wt us y i : Int)) = (wt us x i : Int) - (wt us y i : Int) := w64 (by omega) (by omega)
        rw [e1]
        by_cases hz : (wt us x i : Int) - (wt us y i : Int) = 0
        · constructor <;> intro _ <;> omega
        · rw [if_neg hz]
          constructor <;> intro _ <;> omega) _ hlt j (by omega)
      rw [List.getD_eq_getElem?_getD, List.getElem?_eq_getElem hj] at h1
      simp only [Option.getD_some] at h1
      rw [e] at h1
      exact h1
  obtain ⟨y, h1, h2⟩ := key
  exact ⟨y, fun k hk => at_rounds (g := fun k => impl_victim.f k us inn i) (fun k => impl_victim.mono _ _ _ k) hk h1, h2⟩
theorem drop_rd {us : List Int} {i : Nat} (h : i < us.length) : us.drop i = rd us (i : Int) :: us.drop (i + 1) := by
  rw [List.drop_eq_getElem_cons h, rd_get h]
theorem best_l0 (us : List Int) (hul : us.length ≤ 60) (n : Nat) (h1 : 1 ≤ n) (hn : n ≤ 7) : ∀ (d i : Nat) (inn rp hs : List Int), us.length - i = d → i ≤ us.length → inn.Nodup → inn.length ≤ n → rp.length = i → hs.length = i →
    ∃ rs h2 c, Ev (fun k => impl_bestRun.l0 k us n inn rp hs us us.length i) (rs, hs ++ h2) ∧ Bel false n (us.drop i) inn c ∧ h2.length = d ∧ (c : Int) = d - h2.sum ∧ ∀ x ∈ h2, x = 0 ∨ x = 1 := by
  intro d
  induction d with
  | zero =>
    intro i inn rp hs hd hi _ _ _ _
    obtain rfl : i = us.length := by omega
    refine ⟨rp, [], 0, Ev.step (Ev.const (o := some (rp, hs ++ [])) rfl) (fun k => ?_), ?_, rfl, by simp, by simp⟩
    · simp only [impl_bestRun.l0]
      rw [if_neg (by omega), List.append_nil]
    · rw [List.drop_length]; exact .nil _
  | succ d ih =>
    intro i inn rp hs hd hi hnd hil hrp hhs
    have hi' : i < us.length := by omega
    have hr1 : rp.length < 17592186044416 := by omega
    have hh1 : hs.length < 17592186044416 := by omega
    have hw : wrap64 ((i : Int) + 1) = ((i + 1 : Nat) : Int) := by rw [w64 (by omega) (by omega)]; omega
    rw [drop_rd hi']
    by_cases hm : rd us (i : Int) ∈ inn
    · obtain ⟨rs, h2, c, ⟨k0, e⟩, hb, hl2, hc, h01⟩ := ih (i + 1) inn (rp ++ [-1]) (hs ++ [1]) (by omega) (by omega) hnd hil (by simp [hrp]) (by simp [hhs])
      refine ⟨rs, 1 :: h2, c, ⟨max k0 10 + 1, fun k hk => ?_⟩, .hit hm hb, by simp [hl2], by simp only [List.sum_cons]; omega, fun x hx => by
        rcases List.mem_cons.1 hx with rfl | hx
        · exact .inr rfl
        · exact h01 x hx⟩
      obtain ⟨k, rfl⟩ : ∃ j, k = j + 1 := ⟨k - 1, by omega⟩
      have e1 := e k (by omega)
      dsimp only at e1 ⊢
      simp only [impl_bestRun.l0]
      rw [if_pos (by omega), if_pos (by omega), if_pos (by omega), contains_ok inn _ (by omega) k (by omega), Option.bind_some, decide_eq_true hm, if_pos rfl, if_pos hr1, if_pos hh1, hw, e1, List.append_assoc]
      rfl
    · by_cases hlt : inn.length < n
      · obtain ⟨rs, h2, c, ⟨k0, e⟩, hb, hl2, hc, h01⟩ := ih (i + 1) (inn ++ [rd us (i : Int)]) (rp ++ [-1]) (hs ++ [0]) (by omega) (by omega) (by
          rw [List.nodup_append]
          exact ⟨hnd, by simp, fun x hx y hy e => hm (by rw [← List.mem_singleton.1 hy, ← e]; exact hx)⟩) (by simp; omega) (by simp [hrp]) (by simp [hhs])
        refine ⟨rs, 0 :: h2, c + 1, ⟨max k0 10 + 1, fun k hk => ?_⟩, .room hm hlt (List.perm_append_comm) hb, by simp [hl2], by simp only [List.sum_cons]; omega, fun x hx => by
          rcases List.mem_cons.1 hx with rfl | hx
          · exact .inl rfl
          · exact h01 x hx⟩
        obtain ⟨k, rfl⟩ : ∃ j, k = j + 1 := ⟨k - 1, by omega⟩
        have e1 := e k (by omega)
        dsimp only at e1 ⊢
        simp only [impl_bestRun.l0, impl_length_int64_67.f]
        rw [if_pos (by omega), if_pos (by omega), if_pos (by omega), contains_ok inn _ (by omega) k (by omega), Option.bind_some, decide_eq_false hm, if_neg (by decide), Option.bind_some, if_pos (by omega), if_pos (by omega), if_pos hr1, if_pos hh1, hw, e1, List.append_assoc]
        rfl
      · have hne : inn ≠ [] := by rintro rfl; simp at hlt; omega
        obtain ⟨y, ev, hy, hmax⟩ := victim_ok us hul inn (by omega) hne (i + 1) (by omega)
        have hjy := nx_get (nx_lt.2 hy)
        have hjl := nx_lt.2 hy
        have hp := set_perm hnd hjy (rd us (i : Int)) hm
        have haB : (rd us (i : Int) :: inn).Nodup := List.nodup_cons.2 ⟨hm, hnd⟩
        obtain ⟨rs, h2, c, ⟨k0, e⟩, hb, hl2, hc, h01⟩ := ih (i + 1) (inn.set (nx inn y) (rd us (i : Int))) (rp ++ [y]) (hs ++ [0]) (by omega) (by omega) (hp.nodup_iff.2 (haB.erase y)) (by simp; omega) (by simp [hrp]) (by simp [hhs])
        refine ⟨rs, 0 :: h2, c + 1, ⟨max k0 70 + 1, fun k hk => ?_⟩, .full (y := y) hm (by omega) hy hmax hp hb, by simp [hl2], by simp only [List.sum_cons]; omega, fun x hx => by
          rcases List.mem_cons.1 hx with rfl | hx
          · exact .inl rfl
          · exact h01 x hx⟩
        obtain ⟨k, rfl⟩ : ∃ j, k = j + 1 := ⟨k - 1, by omega⟩
        have e1 := e k (by omega)
        have ev1 := ev k (by omega)
        dsimp only at e1 ⊢
        simp only [impl_bestRun.l0, impl_length_int64_67.f]
        rw [if_pos (by omega), if_pos (by omega), if_pos (by omega), contains_ok inn _ (by omega) k (by omega), Option.bind_some, decide_eq_false hm, if_neg (by decide), Option.bind_some, if_neg (by omega), hw, ev1, Option.bind_some, index_nx inn y (by omega) k (by omega), Option.bind_some, if_pos hjl, if_pos (by omega), if_pos (by omega), if_pos hr1, if_pos hh1, Int.toNat_natCast, e1, List.append_assoc]
        rfl
theorem bestMis_l0 (l : List Int) (hl : l.length ≤ 60) (h : ∀ x ∈ l, x = 0 ∨ x = 1) (N : Int) (hN : 0 ≤ N) (hN2 : N ≤ 60) : ∀ (d i : Nat), l.length - i = d → i ≤ l.length → Ev (fun k => impl_bestMisses.l0 k (N - (l.take i).sum) l l.length i) (N - l.sum) := by
  intro d
  induction d with
  | zero =>
    intro i hd hi
    obtain rfl : i = l.length := by omega
    refine Ev.step (Ev.const (o := some _) rfl) (fun k => ?_)
    simp only [impl_bestMisses.l0]
    rw [if_neg (by omega), List.take_length]
  | succ d ih =>
    intro i hd hi
    refine Ev.step (ih (i + 1) (by omega) (by omega)) (fun k => ?_)
    have h1 := sum01 _ (mem_take01 h i)
    have h2 : rd l (i : Int) = 0 ∨ rd l (i : Int) = 1 := h _ (by rw [rd_get (by omega)]; exact List.getElem_mem _)
    have h3 : (l.take i).length ≤ 60 := by simp; omega
    have h4 := sum_take_succ l i (by omega)
    simp only [impl_bestMisses.l0]
    rw [if_pos (by omega), if_pos (by omega), if_pos (by omega), w64 (x := N - (l.take i).sum - rd l (i : Int)) (by omega) (by omega), w64 (by omega) (by omega), show (i : Int) + 1 = ((i + 1 : Nat) : Int) from by omega, h4,
      show N - (l.take i).sum - rd l (i : Int) = N - ((l.take i).sum + rd l (i : Int)) from by omega]
theorem best_ok (us : List Int) (hul : us.length ≤ 60) (n : Nat) (h1 : 1 ≤ n) (hn : n ≤ 7) : ∃ c : Nat, Ev (fun k => impl_bestMisses.f k us n) (c : Int) ∧ Bel false n us [] c ∧ c ≤ us.length := by
  obtain ⟨rs, h2, c, e, hb, hl2, hc, h01⟩ := best_l0 us hul n h1 hn us.length 0 [] [] [] (by omega) (by omega) List.nodup_nil (Nat.zero_le _) rfl rfl
  have hs := sum01 h2 h01
  refine ⟨c, ?_, hb, by omega⟩
  have h3 := bestMis_l0 h2 (by omega) h01 us.length (by omega) (by omega) h2.length 0 (by omega) (by omega)
  refine Ev.bind (G := fun k (bt : List Int × List Int) => (impl_length_int64_67.f us).bind fun t473 => (impl_bestMisses.l0 k t473 bt.2 (bt.2.length : Int) 0)) e ?_
  have hl4 := hl2
  rw [hc]
  rw [hl2] at h3
  refine Ev.congr h3 (fun k => ?_)
  have hl3 : h2.length = us.length := by assumption
  unfold impl_length_int64_67.f
  rw [Option.bind_some]
  simp [hl3]
/-- The least misses for each number of ways. -/
theorem curve_of (us : List Int) (hul : us.length ≤ 60) : ∃ C : Nat → Nat, ∀ n : Nat, 1 ≤ n → n ≤ 7 → Ev (fun k => impl_bestMisses.f k us n) (C n : Int) ∧ Bel false n us [] (C n) ∧ C n ≤ us.length := by
  refine ⟨fun n => if h : 1 ≤ n ∧ n ≤ 7 then Classical.choose (best_ok us hul n h.1 h.2) else 0, fun n h1 h2 => ?_⟩
  have h3 := Classical.choose_spec (best_ok us hul n h1 h2)
  simp only [h1, h2, and_self, dif_pos]
  exact h3
theorem curve_l0 (us : List Int) (C : Nat → Nat) (hC : ∀ n : Nat, 1 ≤ n → n ≤ 7 → Ev (fun k => impl_bestMisses.f k us n) (C n : Int)) : ∀ (d i : Nat), 7 - i = d → 1 ≤ i → i ≤ 7 →
    Ev (fun k => impl_BestCurve.l0 k us ((List.range (i - 1)).map fun j => (C (j + 1) : Int)) i) ((List.range 6).map fun j => (C (j + 1) : Int), true) := by
  intro d
  induction d with
  | zero =>
    intro i hd h1 hi
    obtain rfl : i = 7 := by omega
    refine Ev.step (Ev.const (o := some _) rfl) (fun k => ?_)
    simp only [impl_BestCurve.l0]
    rw [if_neg (by omega)]
  | succ d ih =>
    intro i hd h1 hi
    have h2 := ih (i + 1) (by omega) (by omega) (by omega)
    refine Ev.step (Ev.bind (G := fun k t481 => if ((List.range (i - 1)).map fun j => (C (j + 1) : Int)).length < 17592186044416 then (impl_BestCurve.l0 k us (((List.range (i - 1)).map fun j => (C (j + 1) : Int)) ++ [t481]) (wrap64 ((i : Int) + 1))) else none) (hC i h1 (by omega)) ?_) (fun k => ?_)
    · refine Ev.congr h2 (fun k => ?_)
      rw [if_pos (by simp; omega), w64 (by omega) (by omega), show (i : Int) + 1 = ((i + 1 : Nat) : Int) from by omega]
      congr 1
      obtain ⟨m, rfl⟩ : ∃ m, i = m + 1 := ⟨i - 1, by omega⟩
      simp [List.range_succ]
    · simp only [impl_BestCurve.l0]
      rw [if_pos (by omega)]
theorem byp_l0 (us : List Int) (hul : us.length ≤ 60) (n : Nat) (h1 : 1 ≤ n) (hn : n ≤ 7) : ∀ (d i : Nat) (inn : List Int) (mi : Int), us.length - i = d → i ≤ us.length → inn.Nodup → inn.length ≤ n → 0 ≤ mi → mi ≤ i →
    ∃ c : Nat, Ev (fun k => impl_BypassMisses.l0 k us n inn mi i) (mi + c) ∧ Bel true n (us.drop i) inn c := by
  intro d
  induction d with
  | zero =>
    intro i inn mi hd hi _ _ _ _
    obtain rfl : i = us.length := by omega
    refine ⟨0, Ev.step (Ev.const (o := some (mi + (0 : Nat))) rfl) (fun k => ?_), ?_⟩
    · simp only [impl_BypassMisses.l0]
      rw [if_neg (by omega)]
      simp
    · rw [List.drop_length]; exact .nil _
  | succ d ih =>
    intro i inn mi hd hi hnd hil hm0 hm1
    have hi' : i < us.length := by omega
    have hw : wrap64 ((i : Int) + 1) = ((i + 1 : Nat) : Int) := by rw [w64 (by omega) (by omega)]; omega
    have hwm : wrap64 (mi + 1) = mi + 1 := w64 (by omega) (by omega)
    rw [drop_rd hi']
    by_cases hm : rd us (i : Int) ∈ inn
    · obtain ⟨c, ⟨k0, e⟩, hb⟩ := ih (i + 1) inn mi (by omega) (by omega) hnd hil hm0 (by omega)
      refine ⟨c, ⟨max k0 10 + 1, fun k hk => ?_⟩, .hit hm hb⟩
      obtain ⟨k, rfl⟩ : ∃ j, k = j + 1 := ⟨k - 1, by omega⟩
      have e1 := e k (by omega)
      dsimp only at e1 ⊢
      simp only [impl_BypassMisses.l0]
      rw [if_pos (by omega), if_pos (by omega), if_pos (by omega), contains_ok inn _ (by omega) k (by omega), Option.bind_some, decide_eq_true hm, if_pos rfl, hw, e1]
    · have hnd2 : (inn ++ [rd us (i : Int)]).Nodup := by
        rw [List.nodup_append]
        exact ⟨hnd, by simp, fun x hx y hy e => hm (by rw [← List.mem_singleton.1 hy, ← e]; exact hx)⟩
      by_cases hlt : inn.length < n
      · obtain ⟨c, ⟨k0, e⟩, hb⟩ := ih (i + 1) (inn ++ [rd us (i : Int)]) (mi + 1) (by omega) (by omega) hnd2 (by simp; omega) (by omega) (by omega)
        refine ⟨c + 1, ⟨max k0 10 + 1, fun k hk => ?_⟩, .room hm hlt (List.perm_append_comm) hb⟩
        obtain ⟨k, rfl⟩ : ∃ j, k = j + 1 := ⟨k - 1, by omega⟩
        have e1 := e k (by omega)
        dsimp only at e1 ⊢
        simp only [impl_BypassMisses.l0]
        rw [if_pos (by omega), if_pos (by omega), if_pos (by omega), contains_ok inn _ (by omega) k (by omega), Option.bind_some, decide_eq_false hm, if_neg (by decide), if_neg (by simp; omega), hw, hwm, e1]
        congr 1
        omega
      · obtain ⟨y, ev, hy, hmax⟩ := victim_ok us hul (inn ++ [rd us (i : Int)]) (by simp; omega) (by simp) (i + 1) (by omega)
        have hfe : (inn ++ [rd us (i : Int)]).filter (fun x => !(x == y)) = (inn ++ [rd us (i : Int)]).erase y := by
          rw [hnd2.erase_eq_filter]
          congr 1
        have hpe : ((inn ++ [rd us (i : Int)]).erase y).Perm ((rd us (i : Int) :: inn).erase y) := (List.perm_append_comm (l₁ := inn) (l₂ := [rd us (i : Int)])).erase y
        obtain ⟨c, ⟨k0, e⟩, hb⟩ := ih (i + 1) ((inn ++ [rd us (i : Int)]).erase y) (mi + 1) (by omega) (by omega) (hnd2.erase y) (by rw [List.length_erase_of_mem hy]; simp; omega) (by omega) (by omega)
        refine ⟨c + 1, ⟨max k0 70 + 1, fun k hk => ?_⟩, .full (y := y) hm (by omega) (by
          show y ∈ rd us (i : Int) :: inn
          rcases List.mem_append.1 hy with h | h
          · exact List.mem_cons_of_mem _ h
          · rw [List.mem_singleton.1 h]; exact List.mem_cons_self) (fun b hb2 => hmax b (by
          have hb3 : b ∈ rd us (i : Int) :: inn := hb2
          rcases List.mem_cons.1 hb3 with h | h
          · rw [h]; simp
          · exact List.mem_append_left _ h)) hpe hb⟩
        obtain ⟨k, rfl⟩ : ∃ j, k = j + 1 := ⟨k - 1, by omega⟩
        have e1 := e k (by omega)
        have ev1 := ev k (by omega)
        dsimp only at e1 ⊢
        simp only [impl_BypassMisses.l0]
        rw [if_pos (by omega), if_pos (by omega), if_pos (by omega), contains_ok inn _ (by omega) k (by omega), Option.bind_some, decide_eq_false hm, if_neg (by decide), if_pos (by simp; omega), hw, ev1, Option.bind_some, hwm, hfe, e1]
        congr 1
        omega
theorem map_range_rd (f : Nat → Int) (N i : Nat) (h : i < N) : rd ((List.range N).map f) (i : Int) = f i := by
  rw [rd_get (by simp; exact h)]
  simp
/-! ### A policy's run is a schedule -/
theorem told_mem {c : List Int} {x : Int} (h : 0 ≤ x) : x ∈ toldOf c ↔ x ∈ c := by
  unfold toldOf
  rw [List.mem_filter]
  have : ¬ x < 0 := by omega
  simp [this]
theorem told_nonneg {c : List Int} {x : Int} (h : x ∈ toldOf c) : 0 ≤ x := by
  unfold toldOf at h
  have := (List.mem_filter.1 h).2
  simp at this
  omega
theorem run_sch {n : Nat} {rows : List (List Int)} {ms us : List Int} (G : Good n rows ms) (h1 : 1 ≤ n) (h2 : n ≤ 6) (hu : ∀ x ∈ us, 0 ≤ x ∧ x < 64) : ∀ (d i : Nat), us.length - i = d → i ≤ us.length →
    ∃ c : Nat, Sch false n (us.drop i) (toldOf (stt rows ms us i)) c ∧ (c : Int) + (((List.range us.length).map (hitA rows ms us)).drop i).sum = d := by
  intro d
  induction d with
  | zero =>
    intro i hd hi
    obtain rfl : i = us.length := by omega
    refine ⟨0, ?_, ?_⟩
    · rw [List.drop_length]; exact .nil _
    · rw [List.drop_of_length_le (by simp)]; rfl
  | succ d ih =>
    intro i hd hi
    have hi' : i < us.length := by omega
    obtain ⟨c, hs, hc⟩ := ih (i + 1) (by omega) (by omega)
    have hx := hu _ (show rd us (i : Int) ∈ us from by rw [rd_get hi']; exact List.getElem_mem _)
    have hC := stt_cont G h1 h2 hu i hi
    have hC' := stt_cont G h1 h2 hu (i + 1) (by omega)
    obtain ⟨_, _, hin, hh, _, _, hsub⟩ := stp_ok G h1 h2 hC _ hx.1 hx.2
    have hst : stt rows ms us (i + 1) = (stp rows ms (stt rows ms us i) (rd us (i : Int))).1 := rfl
    have hlen : ((List.range us.length).map (hitA rows ms us)).length = us.length := by simp
    rw [drop_rd hi', List.drop_eq_getElem_cons (by omega : i < ((List.range us.length).map (hitA rows ms us)).length), List.sum_cons]
    have hg : ((List.range us.length).map (hitA rows ms us))[i]'(by omega) = hitA rows ms us i := by simp
    rw [hg]
    have hhit : hitA rows ms us i = if rd us (i : Int) ∈ stt rows ms us i then 1 else 0 := by
      unfold hitA
      rw [hh]
      by_cases hm : rd us (i : Int) ∈ stt rows ms us i
      · rw [decide_eq_true hm, if_pos rfl, if_pos hm]
      · rw [decide_eq_false hm, if_neg (by decide), if_neg hm]
    refine ⟨(if rd us (i : Int) ∈ toldOf (stt rows ms us i) then 0 else 1) + c, .cons hC'.nod (by
      have h3 : (toldOf (stt rows ms us (i + 1))).length ≤ (stt rows ms us (i + 1)).length := List.length_filter_le _ _
      have := hC'.len
      omega) (fun x hxm => ?_) (.inr ?_) hs, ?_⟩
    · have h0 := told_nonneg hxm
      rw [told_mem h0] at hxm ⊢
      rw [hst] at hxm
      exact hsub x hxm
    · rw [told_mem hx.1, hst]
      exact hin
    · rw [hhit]
      have : rd us (i : Int) ∈ toldOf (stt rows ms us i) ↔ rd us (i : Int) ∈ stt rows ms us i := told_mem hx.1
      by_cases hm : rd us (i : Int) ∈ stt rows ms us i
      · rw [if_pos hm, if_pos (this.2 hm)]; omega
      · rw [if_neg hm, if_neg (fun e => hm (this.1 e))]; omega
theorem told_empty (n : Nat) : toldOf (List.replicate n (-1)) = [] := by
  unfold toldOf
  rw [List.filter_eq_nil_iff]
  intro x hx
  rw [(List.mem_replicate.1 hx).2]
  decide
/-! ### Ratios -/
theorem div_l0 : ∀ (m : Nat) (a b : Int), b.toNat = m → 0 ≤ a → 0 ≤ b → (0 < a ∨ 0 < b) → ∃ g, Ev (fun k => impl_divisor.l0 k a b) g ∧ 0 < g ∧ g ∣ a ∧ g ∣ b := by
  intro m
  induction m using Nat.strongRecOn with
  | ind m ih =>
    intro a b hm ha hb hp
    by_cases hz : b = 0
    · subst hz
      refine ⟨a, Ev.step (Ev.const (o := some a) rfl) (fun k => ?_), by omega, Int.dvd_refl a, Int.dvd_zero a⟩
      simp only [impl_divisor.l0]
      rw [if_pos True.intro]
    · have h1 := tmod_ok a b ha (by omega)
      obtain ⟨g, e, h2, h3, h4⟩ := ih (Int.tmod a b).toNat (by omega) b (Int.tmod a b) rfl hb h1.1 (.inl (by omega))
      refine ⟨g, Ev.step e (fun k => ?_), h2, ?_, h3⟩
      · simp only [impl_divisor.l0]
        rw [if_neg hz]
      · have h5 := Int.tmod_add_mul_tdiv a b
        rw [← h5]
        exact Int.dvd_add h4 (Int.dvd_mul_of_dvd_left h3)
theorem ratio_ok (a b : Int) (ha : 0 ≤ a) (ha2 : a ≤ 60) (hb : 1 ≤ b) (hb2 : b ≤ 60) : ∃ x y, Ev (fun k => impl_ReduceRatio.f k a b) (x, y, true) ∧ x * b = y * a ∧ 0 ≤ x ∧ x ≤ 60 ∧ 0 ≤ y ∧ y ≤ 60 := by
  obtain ⟨g, ⟨k0, e⟩, hg, ⟨p, hp⟩, ⟨q, hq⟩⟩ := div_l0 b.toNat a b rfl ha (by omega) (.inr (by omega))
  have e1 : Int.tdiv a g = p := by rw [hp]; exact Int.mul_tdiv_cancel_left p (by omega)
  have e2 : Int.tdiv b g = q := by rw [hq]; exact Int.mul_tdiv_cancel_left q (by omega)
  have hp0 : 0 ≤ p := by
    rcases Int.lt_or_le p 0 with h | h
    · have := Int.mul_neg_of_pos_of_neg hg h; omega
    · exact h
  have hq0 : 0 ≤ q := by
    rcases Int.lt_or_le q 0 with h | h
    · have := Int.mul_neg_of_pos_of_neg hg h; omega
    · exact h
  have hp1 : p ≤ g * p := by
    have := Int.mul_le_mul_of_nonneg_right (show 1 ≤ g by omega) hp0
    omega
  have hq1 : q ≤ g * q := by
    have := Int.mul_le_mul_of_nonneg_right (show 1 ≤ g by omega) hq0
    omega
  refine ⟨p, q, ⟨k0, fun k hk => ?_⟩, ?_, hp0, by omega, hq0, by omega⟩
  · have e3 := e k hk
    dsimp only at e3 ⊢
    unfold impl_ReduceRatio.f impl_isRatio.f impl_inRange.f impl_divisor.f
    rw [if_pos (by omega), Option.bind_some, decide_eq_true (by omega), if_pos rfl, if_pos (by omega), Option.bind_some, decide_eq_true (by omega), Option.bind_some, if_pos rfl, e3, Option.bind_some, if_neg (by omega), e1, e2, w64 (by omega) (by omega), w64 (by omega) (by omega)]
  · rw [hp, hq]
    rw [Int.mul_comm p (g * q), Int.mul_comm q (g * p), Int.mul_assoc, Int.mul_assoc, Int.mul_comm q p]
theorem bel_pos {byp : Bool} {k : Nat} {a : Int} {w : List Int} {c : Nat} (h : Bel byp k (a :: w) [] c) : 1 ≤ c := by
  cases h with
  | hit ha _ => simp at ha
  | room _ _ _ _ => omega
  | full _ _ _ _ _ _ => omega
/-! ### The law -/
theorem opt_l0 {n : Nat} {rows : List (List Int)} {ms us : List Int} (hml : ms.length = n) (h1 : 1 ≤ n) (h2 : n ≤ 6) (hul : us.length ≤ 60) (C : Nat → Nat) (N B : Int) (hmon : ∀ i, 1 ≤ i → i < 6 → C (i + 1) ≤ C i)
    (hR : Ev (fun k => laws_FnOptimal.l0 k us n N (C n) ((List.range 6).map fun j => (C (j + 1) : Int)) B 6 rows ms) true) : ∀ (d i : Nat), 6 - i = d → 1 ≤ i → i ≤ 6 →
    Ev (fun k => laws_FnOptimal.l0 k us n N (C n) ((List.range 6).map fun j => (C (j + 1) : Int)) B i rows ms) true := by
  intro d
  induction d with
  | zero =>
    intro i hd hi1 hi
    obtain rfl : i = 6 := by omega
    exact hR
  | succ d ih =>
    intro i hd hi1 hi
    refine Ev.step (ih (i + 1) (by omega) (by omega) (by omega)) (fun k => ?_)
    have hl : ((List.range 6).map fun j => (C (j + 1) : Int)).length = 6 := by simp
    have hm := hmon i hi1 (by omega)
    have e1 := map_range_rd (fun j => (C (j + 1) : Int)) 6 i (by omega)
    have e2 := map_range_rd (fun j => (C (j + 1) : Int)) 6 (i - 1) (by omega)
    rw [show i - 1 + 1 = i from by omega] at e2
    simp only [laws_FnOptimal.l0]
    rw [if_pos (by omega), if_pos (by omega), w64 (x := (i : Int) - 1) (by omega) (by omega), if_pos (by omega), if_pos (by omega), show (i : Int) - 1 = ((i - 1 : Nat) : Int) from by omega, e1, e2, if_neg (by omega), w64 (by omega) (by omega), show (i : Int) + 1 = ((i + 1 : Nat) : Int) from by omega]
theorem FnOptimal : laws_FnOptimal.Pure := by
  intro l0 l1 _ hl0 hb0 _ hl1 hb1
  by_cases hlong : (l0.length : Int) > 1048576
  · exact ⟨0, by unfold laws_FnOptimal.f laws_b10Long.f; rw [if_pos hlong, Option.bind_some, if_pos rfl]⟩
  by_cases hlong1 : (l1.length : Int) > 1048576
  · exact ⟨0, by unfold laws_FnOptimal.f laws_b10Long.f; rw [if_neg hlong, Option.bind_some, decide_eq_true hlong1, if_pos rfl]⟩
  obtain ⟨n, rows, ms, ⟨k1, e1⟩, G, h1, h2⟩ := B10Policy_ok l0 (by omega) (byteOf hb0)
  obtain ⟨us, eu, hul, hu⟩ : ∃ us, (∀ k, 40 ≤ k → spec_B10Uses.f k l1 = some us) ∧ us.length ≤ 30 ∧ ∀ x ∈ us, 0 ≤ x ∧ x < 64 := by
    obtain ⟨us, eu, h3, h4⟩ := B10Uses_ok l1 (by omega) (byteOf hb1) 40 (by omega)
    exact ⟨us, fun k hk => at_rounds (g := fun k => spec_B10Uses.f k l1) (fun k => spec_B10Uses.mono _ k) hk eu, h3, h4⟩
  obtain ⟨k3, e3⟩ := misses_f G h1 h2 (by omega) hu
  have lH : ((List.range us.length).map (hitA rows ms us)).length = us.length := by simp
  have h01 := hits_01 rows ms us
  have hs := sum01 _ h01
  have hml : ms.length = n := by rw [G.miss.length_eq, asc_length]; omega
  have hv := valid_of n h1 h2 rows ms G.len G.row G.miss
  have hvu := uses_ok us (by omega) hu
  have hio : impl_isOptimal.f us n = some true := by
    unfold impl_isOptimal.f impl_isWays.f impl_inRange.f
    rw [hvu, Option.bind_some, if_pos rfl, if_pos (by omega), Option.bind_some, decide_eq_true (by omega), Option.bind_some]
  obtain ⟨C, hC⟩ := curve_of us (by omega)
  obtain ⟨b, ⟨k5, e5⟩, hB⟩ := byp_l0 us (by omega) n h1 (by omega) us.length 0 [] 0 (by omega) (by omega) List.nodup_nil (Nat.zero_le _) (by omega) (by omega)
  obtain ⟨k4, e4⟩ := curve_l0 us C (fun i hi1 hi2 => (hC i hi1 hi2).1) 6 1 (by omega) (by omega) (by omega)
  obtain ⟨⟨k6, e6⟩, hBn, hCn⟩ := hC n h1 (by omega)
  -- what the counts are to each other
  obtain ⟨c, hsch, hc⟩ := run_sch G h1 h2 hu us.length 0 (by omega) (by omega)
  rw [show stt rows ms us 0 = List.replicate ms.length (-1) from rfl, told_empty] at hsch
  rw [List.drop_zero] at hsch hc
  rw [List.drop_zero] at hB
  have hle := opt0 hBn hsch
  have hmon : ∀ i, 1 ≤ i → i < 6 → C (i + 1) ≤ C i := fun i hi1 hi2 =>
    opt0 (hC (i + 1) (by omega) (by omega)).2.1 (((hC i hi1 (by omega)).2.1.sch List.nodup_nil (Nat.zero_le _)).up (Nat.le_succ i))
  have hbn : b ≤ C n := opt0 hB (hBn.sch List.nodup_nil (Nat.zero_le _)).free
  have hbc : n < 6 → C (n + 1) ≤ b := fun hn => by
    obtain ⟨c2, h5, h6⟩ := (hB.sch List.nodup_nil (Nat.zero_le _)).hold [] (fun x hx => hx)
    exact Nat.le_trans (opt0 (hC (n + 1) (by omega) (by omega)).2.1 h6) h5
  have hN : ((us.length : Int) - ((List.range us.length).map (hitA rows ms us)).sum) = (c : Int) := by omega
  rw [hN] at e3
  have hcu : c ≤ us.length := by omega
  have hlc : ((List.range 6).map fun j => (C (j + 1) : Int)).length = 6 := by simp
  -- the end of the law
  have hend : ∀ K : Nat, 100 ≤ K → (if (n : Int) = 6 then some true else if 0 ≤ (n : Int) then if (n : Int) < (((List.range 6).map fun j => (C (j + 1) : Int)).length : Int) then some (decide ((b : Int) ≥ rd ((List.range 6).map fun j => (C (j + 1) : Int)) n)) else none else none) = some true := by
    intro K _
    by_cases h6 : n = 6
    · rw [if_pos (by omega)]
    · rw [if_neg (by omega), if_pos (by omega), if_pos (by omega), map_range_rd (fun j => (C (j + 1) : Int)) 6 n (by omega)]
      have := hbc (by omega)
      rw [decide_eq_true (by omega)]
  have hR : Ev (fun k => laws_FnOptimal.l0 k us n c (C n) ((List.range 6).map fun j => (C (j + 1) : Int)) b 6 rows ms) true := by
    by_cases hz : us.length = 0
    · refine ⟨200, fun k hk => ?_⟩
      obtain ⟨k, rfl⟩ : ∃ j, k = j + 2 := ⟨k - 2, by omega⟩
      have hq := hend 100 (Nat.le_refl _)
      dsimp only
      simp only [laws_FnOptimal.l0]
      rw [if_neg (by omega)]
      unfold impl_RatioOf.f
      rw [hv, Option.bind_some, if_pos rfl, hvu, Option.bind_some, if_pos rfl]
      simp only [impl_RatioOf.j0]
      rw [show ((us.length : Int) == 0) = true from by rw [hz]; rfl, if_pos rfl, Option.bind_some]
      dsimp only
      rw [show decide ((us.length : Int) > 0) = false from decide_eq_false (by omega), if_neg (by decide), if_neg (by decide)]
      exact hq
    · have hC1 : 1 ≤ C n := by
        obtain ⟨a, w, hus⟩ : ∃ a w, us = a :: w := by
          cases us with
          | nil => exact absurd rfl hz
          | cons a w => exact ⟨a, w, rfl⟩
        rw [hus] at hBn
        exact bel_pos hBn
      obtain ⟨x, y, ⟨k7, e7⟩, hxy, hx0, hx1, hy0, hy1⟩ := ratio_ok (c : Int) (C n : Int) (by omega) (by omega) (by omega) (by omega)
      have hxm : 0 ≤ x * (C n : Int) ∧ x * (C n : Int) ≤ 60 * 60 := ⟨Int.mul_nonneg hx0 (by omega), Int.mul_le_mul hx1 (by omega) (by omega) (by omega)⟩
      refine ⟨max k3 (max k6 k7) + 200, fun k hk => ?_⟩
      obtain ⟨k, rfl⟩ : ∃ j, k = j + 2 := ⟨k - 2, by omega⟩
      have hq := hend 100 (Nat.le_refl _)
      have q3 := e3 k (by omega)
      have q6 := e6 k (by omega)
      have q7 := e7 k (by omega)
      dsimp only at q3 q6 q7 ⊢
      simp only [laws_FnOptimal.l0]
      rw [if_neg (by omega)]
      unfold impl_RatioOf.f
      rw [hv, Option.bind_some, if_pos rfl, hvu, Option.bind_some, if_pos rfl]
      simp only [impl_RatioOf.j0, impl_Policy_ways.f, impl_length_int64_67.f]
      rw [show ((us.length : Int) == 0) = false from by rw [beq_eq_false_iff_ne]; omega, if_neg (by decide), q3, Option.bind_some, Option.bind_some, Option.bind_some, hml, q6, Option.bind_some, q7, Option.bind_some, Option.bind_some]
      dsimp only
      rw [show decide ((us.length : Int) > 0) = true from decide_eq_true (by omega), if_neg (by decide), if_pos rfl, w64 (x := x * (C n : Int)) (by omega) (by omega), w64 (x := y * (c : Int)) (by omega) (by omega), if_pos hxy]
      exact hq
  obtain ⟨k8, e8⟩ := opt_l0 (rows := rows) (us := us) hml h1 h2 (by omega) C c b hmon hR 5 1 (by omega) (by omega) (by omega)
  obtain ⟨K, hK⟩ : ∃ K, K = max k1 (max k3 (max k4 (max k5 (max k6 k8)))) + 100 := ⟨_, rfl⟩
  refine ⟨K + 1, ?_⟩
  have q1 := e1 (K + 1) (by omega)
  have q3 := e3 (K + 1) (by omega)
  have q4 := e4 (K + 1) (by omega)
  have q5 := e5 (K + 1) (by omega)
  have q6 := e6 (K + 1) (by omega)
  have q8 := e8 K (by omega)
  have qu := eu (K + 1) (by omega)
  dsimp only at q1 q3 q4 q5 q6 q8
  have r2 : impl_MissesOf.f (K + 1) rows ms us = some ((c : Int), true) := by
    unfold impl_MissesOf.f
    rw [hv, Option.bind_some, if_pos rfl, hvu, Option.bind_some, if_pos rfl, q3, Option.bind_some]
  have r3 : impl_BestMisses.f (K + 1) us n = some ((C n : Int), true) := by
    unfold impl_BestMisses.f
    rw [hio, Option.bind_some, if_pos rfl, q6, Option.bind_some]
  have r4 : impl_BestCurve.f (K + 1) us = some ((List.range 6).map fun j => (C (j + 1) : Int), true) := by
    unfold impl_BestCurve.f
    rw [hvu, Option.bind_some, if_pos rfl]
    exact q4
  have r5 : impl_BypassMisses.f (K + 1) us n = some ((b : Int), true) := by
    unfold impl_BypassMisses.f
    rw [if_pos hio]
    have q5' : impl_BypassMisses.l0 (K + 1) us n [] 0 0 = some (0 + (b : Int)) := q5
    rw [q5', Option.bind_some, Int.zero_add]
  unfold laws_FnOptimal.f laws_b10Long.f
  rw [if_neg hlong, Option.bind_some, decide_eq_false hlong1, if_neg (by decide), q1, Option.bind_some]
  dsimp only
  rw [qu, Option.bind_some, r2, Option.bind_some, hml, r3, Option.bind_some, r4, Option.bind_some, r5, Option.bind_some]
  dsimp only
  rw [if_pos rfl, if_pos rfl, if_pos rfl, if_pos rfl, if_neg (by omega), if_pos (by omega), w64 (by omega) (by omega), if_pos (by omega), if_pos (by omega), show (n : Int) - 1 = ((n - 1 : Nat) : Int) from by omega,
    map_range_rd (fun j => (C (j + 1) : Int)) 6 (n - 1) (by omega), show n - 1 + 1 = n from by omega, if_pos rfl, decide_eq_false (by omega)]
  simp only [laws_FnOptimal.j0]
  rw [if_neg (by decide)]
  exact q8
end Go.Proofs.Ytndiplmpolkneaa.Pure
