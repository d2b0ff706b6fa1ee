-- Laid by hp.py (this repo's wip/) through the kit's print; contracts of this repo's own among them.
import Derived.Test.YtndiplmpolkneaaLx0
namespace Go.Proofs.Ytndiplmpolkneaa.L
open Go.RowKit Go.Proofs.YtndiplmpolkneaaW.PrintWords Go.Proofs.YtndiplmpolkneaaW.PrintLast Go.Proofs.YtndiplmpolkneaaW.PrintMore
attribute [local go_sem] max2_int min2_int max_two min_two max_three min_three max_four min_four   -- for this text's walks alone
set_option linter.unusedVariables false
set_option linter.unusedSimpArgs false

/-! ### impl_ascending: function 48 -/
def impl_ascending.l0 : Nat → List Int → Int → Int → Option (List Int)
  | 0, _, _, _ => none
  | k + 1, x3, x6, x7 => if x7 < x6 then (if x3.length < 17592186044416 then (impl_ascending.l0 k (x3 ++ [x7]) x6 (wrap64 (x7 + 1))) else (none)) else (some x3)
def impl_ascending.f (k : Nat) (a0 : Int) : Option (List Int) := impl_ascending.l0 k (([] : List Int)) a0 0
theorem impl_ascending.mono_l : ∀ k, (∀ y0 y1 y2, LeO (impl_ascending.l0 k y0 y1 y2) (impl_ascending.l0 (k + 1) y0 y1 y2))
  | 0 => fun _ _ _ r h => by simp [impl_ascending.l0] at h
  | k + 1 => by
    have ih0 := impl_ascending.mono_l k
    · intro y0 y1 y2
      unfold impl_ascending.l0
      repeat' first
      | (with_reducible exact ih0 _ _ _)
      | (with_reducible exact LeO.refl _)
      | (with_reducible exact LeO.none _)
      | (with_reducible refine LeO.ite ?_ ?_)
      | (with_reducible refine LeO.bind ?_ (fun _ => ?_))
      | exact ih0 _ _ _
      | exact LeO.none _
      | refine LeO.ite ?_ ?_
      | refine LeO.bind ?_ (fun _ => ?_)
theorem impl_ascending.mono : ∀ a0 k, LeO (impl_ascending.f k a0) (impl_ascending.f (k + 1) a0) := by
  intro a0 k
  have ih0 := impl_ascending.mono_l k
  unfold impl_ascending.f
  repeat' first
      | (with_reducible exact ih0 _ _ _)
      | (with_reducible exact LeO.refl _)
      | (with_reducible exact LeO.none _)
      | (with_reducible refine LeO.ite ?_ ?_)
      | (with_reducible refine LeO.bind ?_ (fun _ => ?_))
      | exact ih0 _ _ _
      | exact LeO.none _
      | refine LeO.ite ?_ ?_
      | refine LeO.bind ?_ (fun _ => ?_)
set_option maxHeartbeats 8000000 in
set_option maxRecDepth 100000 in
theorem impl_ascending.calls (k : Nat) (a0 : Int) (r : List Int) (w : World) (h : impl_ascending.f k a0 = some r) :
    Calls Try.prog 48 #[.int .i64 a0] w fun e w' => ∃ v0_ : Value, e = .returned (v0_) ∧ Kd.R (Kd.int .i64) 2 w' w.heap.size (fun _ => True) v0_ r ∧ Below w.heap.size w w' := by
  have HB := Aside0.mk (Below.refl w.heap.size w)
  have H : (impl_ascending.l0 k (([] : List Int)) a0 0) = some r := h
  clear h
  obtain ⟨y101, hy101⟩ : ∃ y_ : List Int, y_ = (([] : List Int)) := ⟨_, rfl⟩
  replace H : (impl_ascending.l0 k y101 a0 0) = some r := by first | (rw [hy101]; with_reducible exact H) | (have H2_ := (Option.bind_some _ _).symm.trans H; rw [hy101]; with_reducible exact H2_) | (have H2_ := (Option.bind_some _ _).symm.trans H; with_reducible exact H2_) | with_reducible exact H | (rw [hy101]; exact H) | exact H
  have Ny101 := Aside0.mk hy101
  clear hy101
  have H' := Aside0.mk H
  clear H
  go_enter Try.func48, Try.ntmps48
  go_wp2_with (first | ((with_reducible refine gate_dst (N := 5) rfl ?_); refine Kd.R_lit (Kd.int .i64) _ 2 ?hg (N := 5) ?hd (xs := ([] : List Int)) (inner := []) (ok := fun _ => True) (okp := fun _ => True) ?hr ?hp (fun _ hk => hk) trivial (Below.refl _ _) (Nat.le_refl _) (by simp) ?_; (case hd => rfl); (case hg => rfl); (case hr => first | (go_simp; done) | (go_simp; rfl)); (case hp => exact (Reps.none _ _)); intro v102 w2 ho3 hb hg_ hnew_; clear hg_ hnew_; (first | rw [← Ny101.out] at ho3 | (simp only [Int.reduceToNat] at ho3; rw [← Ny101.out] at ho3)); have n0_ := Aside0.mk (Kd.R_lower ho3 (below_size (by repeat (first | (with_reducible first | exact HB.out | apply below_alloc | apply pw_below_drewN | apply below_drew1) | exact HB.out)))); have n1_ := Aside0.mk (below_step (by repeat (first | (with_reducible first | exact HB.out | apply below_alloc | apply pw_below_drewN | apply below_drew1) | exact HB.out)) hb); clear HB; have HO103 := n0_; have HB := n1_; clear n0_ n1_; clear hb ho3))
  go_loopg [3, 7] k (fun kq v3 v7 w' => ∃ (x3_1 : List Int) (x7_1 : Int), v7 = .int .i64 x7_1 ∧ Aside0 (impl_ascending.l0 kq x3_1 a0 x7_1 = some r) ∧ Aside0 (kq ≤ k) ∧ Aside0 (Kd.R (Kd.int .i64) 2 w' w.heap.size (fun _ => True) v3 x3_1) ∧ Aside0 (Below w.heap.size w w'))
  case atStart => exact ⟨(y101), (0), (by first | rfl | (simp; done) | (simp [*]; done)), H', ⟨Nat.le_refl _⟩, ⟨by (with_reducible repeat (first | apply Kd.R_alloc | apply Kd.R_drewN | apply Kd.R_drew)); exact HO103.out⟩, ⟨by repeat (first | (with_reducible first | exact HB.out | apply below_alloc | apply pw_below_drewN | apply below_drew1) | exact HB.out)⟩⟩
  case round =>
    clear H'
    try clear p2
    obtain ⟨x3_1, x7_1, rfl, HA, HK1, HO_3, HB⟩ := hrel
    cases gk with
    | zero => exact absurd HA.out (by simp [impl_ascending.l0])
    | succ k1 =>
      have H := HA.out
      clear HA
      simp only [impl_ascending.l0] at H
      by_cases c4 : x7_1 < a0
      · rw [if_pos c4] at H
        have c4b0 : decide (x7_1 < a0) = true := decide_eq_true c4
        clear c4
        by_cases c5 : x3_1.length < 17592186044416
        · rw [if_pos c5] at H
          have LMc5 := Aside0.mk c5
          clear c5
          obtain ⟨y104, hy104⟩ : ∃ y_ : List Int, y_ = (x3_1 ++ [x7_1]) := ⟨_, rfl⟩
          replace H : (impl_ascending.l0 k1 y104 a0 (wrap64 (x7_1 + 1))) = some r := by first | (rw [hy104]; with_reducible exact H) | (have H2_ := (Option.bind_some _ _).symm.trans H; rw [hy104]; with_reducible exact H2_) | (have H2_ := (Option.bind_some _ _).symm.trans H; with_reducible exact H2_) | with_reducible exact H | (rw [hy104]; exact H) | exact H
          have Ny104 := Aside0.mk hy104
          clear hy104
          have H' := Aside0.mk H
          clear H
          go_wp2_with (first | ((with_reducible refine gate_builtin (b := .append) (xs := #[.tmp 10, .tmp 12]) rfl ?_); at_builtin; refine Kd.R_append (Kd.int .i64) (w0 := w) w.heap.size rfl (.tmp 10) (.tmp 12) 24 2 (.int .i64 0) 8 rfl Try.underlying24 info2 rfl (by decide) (by omega) u3 x3_1 x7_1 [.int .i64 x7_1] (fun _ => True) (fun _ => False) rfl rfl ?aP (fun _ hk => hk.elim) ?aF ?aO ?aB ?aS ?aL ?_; (case aP => exact rfl); (case aB => exact (by repeat (first | (with_reducible first | exact HB.out | apply below_alloc | apply pw_below_drewN | apply below_drew1) | exact HB.out))); (case aF => exact (fun _ _ => trivial)); (case aO => exact (by (with_reducible repeat (first | apply Kd.R_alloc | apply Kd.R_drewN | apply Kd.R_drew)); exact HO_3.out)); (case aS => exact (below_size (by repeat (first | (with_reducible first | exact HB.out | apply below_alloc | apply pw_below_drewN | apply below_drew1) | exact HB.out)))); (case aL => have := LMc5.out; omega); intro v105 w6 ho hb hg hat; rw [← Ny104.out] at ho; have n0_ := Aside0.mk (hb); have n1_ := Aside0.mk (ho); clear HB; clear HO_3; have HB := n0_; have HO106 := n1_; clear n0_ n1_; clear ho hb hg hat))
          go_roundg k1
          case measure => have := HK1.out; omega
          case rel => exact ⟨(y104), (wrap64 (x7_1 + 1)), (by first | rfl | (simp; done) | (simp [*]; done)), H', ⟨by have := HK1.out; omega⟩, ⟨by (with_reducible repeat (first | apply Kd.R_alloc | apply Kd.R_drewN | apply Kd.R_drew)); exact HO106.out⟩, ⟨by repeat (first | (with_reducible first | exact HB.out | apply below_alloc | apply pw_below_drewN | apply below_drew1) | exact HB.out)⟩⟩
        · rw [if_neg c5] at H
          exact absurd H (by simp)
      · rw [if_neg c4] at H
        have c4b0 : decide (x7_1 < a0) = false := decide_eq_false c4
        clear c4
        obtain rfl := Option.some.inj H
        go_wp2
        go_ret
        exact ⟨_, by first | rfl | (simp [errW_none, errW_some] <;> rfl) | (simp [*, errW_none, errW_some] <;> rfl), by (with_reducible repeat (first | apply Kd.R_alloc | apply Kd.R_drewN | apply Kd.R_drew)); exact HO_3.out, by repeat (first | (with_reducible first | exact HB.out | apply below_alloc | apply pw_below_drewN | apply below_drew1) | exact HB.out)⟩

/-! ### impl_inRange: function 97 -/
def impl_inRange.f (a0 : Int) (a1 : Int) (a2 : Int) : Option (Bool) := if a1 ≤ a0 then (some (decide (a0 ≤ a2))) else (some false)
set_option maxHeartbeats 8000000 in
set_option maxRecDepth 100000 in
theorem impl_inRange.calls (a0 : Int) (a1 : Int) (a2 : Int) (r : Bool) (w : World) (h : impl_inRange.f a0 a1 a2 = some r) :
    Calls Try.prog 97 #[.int .i64 a0, .int .i64 a1, .int .i64 a2] w fun e w' => e = .returned (.bool r) ∧ Drawn0 w w' := by
  have H : (if a1 ≤ a0 then (some (decide (a0 ≤ a2))) else (some false)) = some r := h
  clear h
  by_cases c4 : a1 ≤ a0
  · rw [if_pos c4] at H
    have c4b0 : decide (a1 ≤ a0) = true := decide_eq_true c4
    clear c4
    obtain rfl := Option.some.inj H
    go_enter Try.func97, Try.ntmps97
    go_wp2
    go_ret
    exact ⟨by first | rfl | (simp; done) | (simp [*]; done), by repeat (first | exact Drawn0.refl _ | apply Drawn0.step)⟩
  · rw [if_neg c4] at H
    have c4b0 : decide (a1 ≤ a0) = false := decide_eq_false c4
    clear c4
    obtain rfl := Option.some.inj H
    go_enter Try.func97, Try.ntmps97
    go_wp2
    go_ret
    exact ⟨by first | rfl | (simp; done) | (simp [*]; done), by repeat (first | exact Drawn0.refl _ | apply Drawn0.step)⟩

/-! ### impl_isWays: function 87 -/
def impl_isWays.f (a0 : Int) : Option (Bool) := (impl_inRange.f a0 1 6).bind fun t107 => (some t107)
set_option maxHeartbeats 8000000 in
set_option maxRecDepth 100000 in
theorem impl_isWays.calls (a0 : Int) (r : Bool) (w : World) (h : impl_isWays.f a0 = some r) :
    Calls Try.prog 87 #[.int .i64 a0] w fun e w' => e = .returned (.bool r) ∧ Drawn0 w w' := by
  have H : ((impl_inRange.f a0 1 6).bind fun t107 => (some t107)) = some r := h
  clear h
  replace H := Option.bind_eq_some_iff.mp H
  obtain ⟨t107, A20, H⟩ := H
  replace H : (some t107) = some r := H
  have A2 := Aside0.mk A20
  clear A20
  obtain rfl := Option.some.inj H
  go_enter Try.func87, Try.ntmps87
  go_wp2_with (first | ((with_reducible refine gate_callee (f := 97) rfl ?_); refine goesL_ (some 4) rfl rfl Try.func97 (by kernel_rfl) rfl #[.int .i64 a0, .int .i64 1, .int .i64 6] rfl (by (try simp only [List.map_toArray, List.map_cons, List.map_nil]); first | done | rfl | (simp only [List.length_drop, List.length_take]; rfl)) ?_; (with_reducible refine (impl_inRange.calls a0 1 6 t107 _ A2.out).mono ?_); rintro e w' ⟨rfl, ⟨nd, rfl⟩⟩; refine ⟨_, rfl, ?_⟩))
  go_ret
  exact ⟨by first | rfl | (simp; done) | (simp [*]; done), by repeat (first | exact Drawn0.refl _ | apply Drawn0.step)⟩

def inR (lo hi n : Int) : Bool := decide (lo ≤ n) && decide (n ≤ hi)

/-- The numbers 0 to n - 1. -/
def asc (n : Int) : List Int := (List.range n.toNat).map Int.ofNat
theorem asc_length (n : Int) : (asc n).length = n.toNat := by simp [asc]
theorem asc_succ (i : Nat) : asc ((i : Int) + 1) = asc i ++ [(i : Int)] := by
  unfold asc
  rw [show ((i : Int) + 1).toNat = i + 1 from by omega, show ((i : Int)).toNat = i from by omega, List.range_succ, List.map_append]
  rfl
theorem asc_loop (n : Int) (hn : n < 17592186044416) : ∀ (d i k : Nat), n.toNat - i = d → i ≤ n.toNat → d < k → impl_ascending.l0 k (asc i) n i = some (asc n) := by
  intro d
  induction d with
  | zero =>
    intro i k hd hi hk
    obtain ⟨k, rfl⟩ : ∃ m, k = m + 1 := ⟨k - 1, by omega⟩
    simp only [impl_ascending.l0]
    rw [if_neg (by omega)]
    unfold asc
    rw [show i = n.toNat from by omega, Int.toNat_natCast]
  | succ d ih =>
    intro i k hd hi hk
    obtain ⟨k, rfl⟩ : ∃ m, k = m + 1 := ⟨k - 1, by omega⟩
    simp only [impl_ascending.l0]
    rw [if_pos (by omega), if_pos (by rw [asc_length]; omega), show wrap64 ((i : Int) + 1) = ((i + 1 : Nat) : Int) from by unfold wrap64; omega, ← asc_succ]
    exact ih (i + 1) k (by omega) (by omega) (by omega)
theorem asc_f (n : Int) (hn : n < 17592186044416) : ∃ k, impl_ascending.f k n = some (asc n) :=
  ⟨n.toNat + 1, by
    have h := asc_loop n hn n.toNat 0 (n.toNat + 1) (by omega) (by omega) (by omega)
    exact h⟩

theorem isSome_setCells' (b : Nat) (vs : List Value) (o : Nat) (w : World) (h : ∀ j, j < vs.length → (w.cell? ⟨b, o + j, none⟩).isSome = true) (k : Nat) (hk : (w.cell? ⟨b, k, none⟩).isSome = true) : ((w.setCells b o vs).cell? ⟨b, k, none⟩).isSome = true := isSome_setCells b vs o w h k hk
/-- Cells of a row, set from an index on. -/
def setMany (F : Array Value) : Nat → List Value → Array Value
  | _, [] => F
  | s, v :: r => setMany (F.setIfInBounds s v) (s + 1) r
theorem setMany_size : ∀ (vs : List Value) (s : Nat) (F : Array Value), (setMany F s vs).size = F.size
  | [], _, _ => rfl
  | v :: r, s, F => by unfold setMany; rw [setMany_size r]; simp
theorem below_cells {B b : Nat} (hb : B ≤ b) {w0 : World} : ∀ (vs : List Value) (o : Nat) (w : World), Below B w0 w → Below B w0 (w.setCells b o vs)
  | [], _, _, h => h
  | v :: r, o, w, h => by
    unfold World.setCells
    exact below_cells hb r (o + 1) _ (h.setCell hb _)
theorem setCells_blk {b : Nat} {t : TypeId} : ∀ (vs : List Value) (o : Nat) (w : World) (cur : Array Value), w.heap[b]? = some (.cells cur t (0, 0)) → (w.setCells b o vs).heap[b]? = some (.cells (setMany cur o vs) t (0, 0))
  | [], _, _, _, h => h
  | v :: r, o, w, cur, h => by
    unfold World.setCells setMany
    exact setCells_blk r (o + 1) _ _ (blk_set h o v)
theorem setMany_toList : ∀ (vs : List Value) (s : Nat) (F : Array Value), s + vs.length ≤ F.size → (setMany F s vs).toList = F.toList.take s ++ vs ++ F.toList.drop (s + vs.length)
  | [], s, F, _ => by simp [setMany]
  | v :: r, s, F, h => by
    simp only [List.length_cons] at h
    unfold setMany
    rw [setMany_toList r (s + 1) _ (by simp; omega)]
    simp only [Array.toList_setIfInBounds, List.length_cons]
    rw [List.take_succ_eq_append_getElem (by simp; omega), List.getElem_set_self, List.take_set_of_le (by omega), List.drop_set_of_lt (by omega)]
    simp [Nat.add_assoc, Nat.add_comm 1]
set_option maxHeartbeats 4000000 in
set_option maxRecDepth 100000 in
/-- slices.Insert(s, 0, x) where there is room behind the elements: in place. -/
theorem insFront (b n c vb : Nat) (cur : Array Value) (x : Value) (cs : List Value) (w : World) (hgb : w.heap[b]? = some (.cells cur 2 (0, 0))) (hsz : cur.size = c) (hn : n + 1 ≤ c) (hc63 : c ≤ 9223372036854775807)
    (hcs : cur.toList.take n = cs) (h1c : ∀ v ∈ cs, v.oneCell' = true) (h1x : x.oneCell' = true) (hvb : vb ≠ b) (hgv : w.heap[vb]? = some (.cells #[x] 2 (0, 0))) :
    Calls Try.prog 89 #[.slice (some ⟨b, 0, none⟩) n c, .int .i64 0, .slice (some ⟨vb, 0, none⟩) 1 1] w fun e w' =>
      e = .returned (.slice (some ⟨b, 0, none⟩) (n + 1) c) ∧ ∃ cur', w'.heap[b]? = some (.cells cur' 2 (0, 0)) ∧ cur'.size = c ∧ cur'.toList.take (n + 1) = x :: cs ∧ ∀ B, B ≤ b → Below B w w' := by
  have hcl : cs.length = n := by rw [← hcs]; simp; omega
  have hcell : ∀ j v, cs[j]? = some v → w.cell? ⟨b, 0 + j, none⟩ = some v := by
    intro j v hj
    rw [Nat.zero_add, blk_cell hgb j]
    rw [← hcs, List.getElem?_take] at hj
    split at hj
    · rwa [Array.getElem?_toList] at hj
    · exact absurd hj (by simp)
  have hsp : ∀ j, j < n + 1 → (w.cell? ⟨b, 0 + j, none⟩).isSome = true := by
    intro j hj
    rw [Nat.zero_add, blk_cell hgb j, Array.getElem?_eq_getElem (by omega)]
    rfl
  have hfz : ∀ j, j < n + 1 → w.frozen? ⟨b, 0 + j, none⟩ = false := fun j _ => blk_frozen hgb _
  have hvx : w.cell? ⟨vb, 0, none⟩ = some x := (blk_cell hgv 0).trans rfl
  have mixed : Try.prog.follows .mixedOrders = true := by kernel_rfl
  have u24 := Try.underlying24
  have hsize : (Try.prog.info? 2).map (·.size) = some 1 := by kernel_rfl
  have hend : ∀ w', (∃ W : World, (∀ y : Nat, W.heap[y]? = w.heap[y]?) ∧ W.os = w.os ∧ W.tape = w.tape ∧ W.output = w.output ∧ W.heap.size = w.heap.size ∧ w' = (W.setCells b (0 + 1) cs).setCells b 0 [x]) → ∃ cur', w'.heap[b]? = some (.cells cur' 2 (0, 0)) ∧ cur'.size = c ∧ cur'.toList.take (n + 1) = x :: cs ∧ ∀ B, B ≤ b → Below B w w' := by
    rintro w' ⟨W, hW, h1, h2, h3, h4, rfl⟩
    have hb1 : ∀ B, Below B w W := fun B => ⟨h1, h2, h3, by rw [h4]; exact Nat.le_refl _, fun k _ => hW k⟩
    refine ⟨_, setCells_blk [x] 0 _ _ (setCells_blk cs (0 + 1) W cur ((hW b).trans hgb)), by rw [setMany_size, setMany_size, hsz], ?_, fun B hB => below_cells hB _ _ _ (below_cells hB _ _ _ (hb1 B))⟩
    rw [setMany_toList _ _ _ (by rw [setMany_size]; simp; omega), setMany_toList _ _ _ (by omega)]
    cases hcur : cur.toList with
    | nil =>
      have hh : cur.toList.length = 0 := by rw [hcur]; rfl
      simp only [Array.length_toList] at hh
      omega
    | cons y ys => simp [hcl]
  clear hcs
  by_cases h0 : n = 0
  · subst h0
    obtain rfl : cs = [] := List.eq_nil_of_length_eq_zero hcl
    have hsrc : Src Try.prog 1 24 (.slice (some ⟨vb, 0, none⟩) 1 1) 1 [x] w := Src.ofSlice w Try.underlying24 ⟨vb, 0, none⟩ 1 1 [x] (by simp) (fun j u hj => by
      rw [Addr.add_lit]
      cases j with
      | zero => simp at hj; subst hj; exact hvx
      | succ j => simp at hj) (by simpa using h1x)
    have HE := Aside0.mk hend
    clear hend hgb hcell hgv
    go_enter Try.func89, Try.ntmps89
    go_wp2_with (at_builtin; refine wpList_append_room1 _ rfl _ _ 24 24 rfl 2 _ _ Try.underlying24 info2 b 0 0 c rfl _ rfl 1 [x] hsrc hn (fun j hj => by simpa using hsp j (by simpa using hj)) (fun j hj => by simpa using hfz j (by simpa using hj)) ?_)
    go_ret
    exact ⟨rfl, HE.out _ ⟨w, fun _ => rfl, rfl, rfl, rfl, rfl, rfl⟩⟩
  · have hz2 : ¬ ((0 : Int) = (n : Int)) := by omega
    have hov : ∀ lb cb, (callFunc 117 #[.slice (some ⟨vb, 0, none⟩) 1 1, .slice (some ⟨b, 1, none⟩) lb cb]).run Try.prog w = .ok (.value (.bool false)) w := fun lb cb => by
      rw [run_callFunc_extern Try.func117 (by kernel_rfl) (by kernel_rfl) (by kernel_rfl) (e := Extern.SlicesOverlaps.overlaps #[24, 24] #[4]) (by kernel_rfl),
        Lib.run_overlaps_apart w 24 4 2 Try.underlying24 1 Try.sizeOf2 ⟨vb, 0, none⟩ ⟨b, 1, none⟩ 1 1 lb cb hvb 2 2 1 cur.size (by simp [World.shape?, hgv]) (by simp [World.shape?, hgb]) (by omega) (blk_frozen hgv _) (blk_frozen hgv _)]
      rfl
    have hb2 : ¬ (c = 1) := by omega
    have hw1 : IntKind.i64.wrap 1 = 1 := by rw [IntKind.wrap_i64]; omega
    have hb3 : (1 : Int) ≤ (n : Int) + 1 := by omega
    have htn : (1 : Int).toNat = 1 := rfl
    have hb5 : (0 : Int) ≤ (n : Int) + 1 := by omega
    have hb4 : ¬ (c = 0) := by omega
    have hcp1 : ∀ ty dc sc, (Builtin.copy_ #[24, 24] ty #[.slice (some ⟨b, 1, none⟩) n dc, .slice (some ⟨b, 0, none⟩) (n + 1) sc]).run Try.prog w.drew = .ok (goInt cs.length) (w.drew.setCells b 1 cs) := fun ty dc sc =>
      run_copy_cells w.drew _ _ ty 2 b 1 n dc ⟨b, 0, none⟩ (n + 1) sc cs Try.underlying24 hsize (by rw [hcl]; simp only [Nat.min_def]; split <;> omega)
        (fun j v hj => by rw [Addr.add_lit]; exact hcell j v hj)
        (fun j hj => by have hq := hsp (1 + j) (by omega); rwa [Nat.zero_add] at hq) (fun j hj => by have hq := hfz (1 + j) (by omega); rwa [Nat.zero_add] at hq) h1c
    obtain ⟨W1, hW1⟩ : ∃ W1, W1 = w.drew.setCells b 1 cs := ⟨_, rfl⟩
    have hsp1 : ∀ k, k < n + 1 → (W1.cell? ⟨b, k, none⟩).isSome = true := fun k hk => by
      rw [hW1]
      exact isSome_setCells b _ _ _ (fun j hj => by have hq := hsp (1 + j) (by omega); rwa [Nat.zero_add] at hq) _ (by have hq := hsp k hk; rwa [Nat.zero_add] at hq)
    have hcp2 : ∀ (W : World), (∀ x, W.cell? x = W1.cell? x) → (∀ x, W.frozen? x = W1.frozen? x) → ∀ ty dc, (Builtin.copy_ #[24, 24] ty #[.slice (some ⟨b, 0, none⟩) (n + 1) dc, .slice (some ⟨vb, 0, none⟩) 1 1]).run Try.prog W = .ok (goInt 1) (W.setCells b 0 [x]) := fun W hWc hWf ty dc =>
      run_copy_cells W _ _ ty 2 b 0 (n + 1) dc ⟨vb, 0, none⟩ 1 1 [x] Try.underlying24 hsize (by simp only [List.length_singleton, Nat.min_def]; split <;> omega)
        (fun j v hj => by
          rw [Addr.add_lit, hWc, hW1, World.cell?_setCells_out b _ _ _ _ (fun h _ => absurd h hvb)]
          cases j with
          | zero => simp at hj; subst hj; exact hvx
          | succ j => simp at hj)
        (fun j hj => by rw [hWc]; exact hsp1 _ (by simp at hj; omega)) (fun j hj => by rw [hWf, hW1, World.frozen?_setCells]; have hq := hfz (0 + j) (by simp at hj; omega); rwa [Nat.zero_add] at hq) (by simpa using h1x)
    rw [← hW1] at hcp1
    have HE := Aside0.mk hend
    clear hend hgb hcell hgv hsp hfz hsp1
    go_enter Try.func89, Try.ntmps89
    go_wp2_with (simp only [hov])
    go_region_law_o (refine step_copy_runI rfl _ _ 24 24 rfl _ _ (by simp [Act.eval, Act.put]) (by simp [Act.eval, Act.put]) (hcp1 _ _ _) ?_)
    go_wp2_with (at_builtin; refine wpList_copy_runI _ rfl _ _ 24 24 rfl _ _ rfl rfl (hcp2 _ (fun _ => rfl) (fun _ => rfl) _ _) ?_)
    go_ret
    exact ⟨rfl, HE.out _ ⟨w.drew, fun _ => rfl, rfl, rfl, rfl, rfl, (by rfl)⟩⟩

/-- The numbers 0 to n - 1 with the one at an index moved to the front. -/
def mvd (n k : Nat) : List Int := (k : Int) :: ((asc n).take k ++ (asc n).drop (k + 1))
theorem putRow_blk {w : World} {g q : Nat} {cur : Array Value} {e : TypeId} (d : Array Int) (hb : w.heap[g]? = some (.cells cur e (0, 0))) :
    (Go.Sort.putRow (Value.int .i64) (Go.Sort.ahead w q) g 0 d).heap[g]? = some (.cells (Go.Sort.putCells (Value.int .i64) 0 d cur) e (0, 0)) := by
  simp [Go.Sort.putRow, Go.Sort.mapBlock, Go.Sort.ahead, Array.getElem?_modify, hb, Go.Sort.onCells]
theorem putRow_below {w : World} {g q B : Nat} (d : Array Int) (hB : B ≤ g) : Below B w (Go.Sort.putRow (Value.int .i64) (Go.Sort.ahead w q) g 0 d) :=
  ⟨rfl, rfl, rfl, by simp [Go.Sort.putRow, Go.Sort.mapBlock, Go.Sort.ahead], fun k hk => by
    have : g ≠ k := by omega
    simp [Go.Sort.putRow, Go.Sort.mapBlock, Go.Sort.ahead, Array.getElem?_modify, this]⟩
set_option maxHeartbeats 2000000 in
theorem movedCalls (n k : Nat) (hn : n ≤ 6) (hk : k < n) (w : World) :
    Calls Try.prog 45 #[.int .i64 n, .int .i64 k, .int .i64 0] w fun e w' => ∃ v0_ : Value, e = .returned v0_ ∧ Kd.R (Kd.int .i64) 2 w' w.heap.size (fun _ => True) v0_ (mvd n k) ∧ Below w.heap.size w w' := by
  obtain ⟨ka, ha⟩ := asc_f n (by omega)
  have hal : (asc n).length = n := by rw [asc_length]; simp
  have hasc : ∀ W, Calls Try.prog 48 #[.int .i64 n] W fun e w' => ∃ gb cap cur, e = .returned (.slice (some ⟨gb, 0, none⟩) n cap) ∧ W.heap.size ≤ gb ∧ w'.heap[gb]? = some (.cells cur 2 (0, 0)) ∧ n ≤ cap ∧ cap ≤ 9223372036854775807 ∧ cur.size = cap ∧ cur.toList.take n = (asc n).map (Value.int .i64) ∧ Below W.heap.size W w' := by
    intro W
    refine (impl_ascending.calls ka n (asc n) W ha).mono ?_
    rintro e w1 ⟨v, rfl, hR, hb⟩
    have ho := Kd.own_of_R hR
    rcases ho.2 with ⟨rfl, hz⟩ | ⟨gb, cap', cur, rfl, hbase, hgb, r1, r2, r3, r4⟩
    · exact absurd hz (by omega)
    · rw [hal] at r1 r4
      refine ⟨gb, cap', cur, by rw [hal], hbase, hgb, r1, by simp [maxLen] at r2; omega, by simpa using r3, ?_, hb⟩
      rw [Nat.mul_one] at r4
      rw [r4]
      rfl
  have hw1 : IntKind.i64.wrap ((k : Int) + 1) = (k : Int) + 1 := by rw [IntKind.wrap_i64]; omega
  clear ha
  obtain ⟨news, hnews⟩ : ∃ d : List Int, d = (asc n).take k ++ (asc n).drop (k + 1) := ⟨_, rfl⟩
  have hnl : news.length = n - 1 := by rw [hnews]; simp [hal]; omega
  have hmv : mvd n k = (k : Int) :: news := by rw [hnews]; rfl
  have cD : ∀ (gb cap' : Nat) (cur : Array Value) (w1 : World), w1.heap[gb]? = some (.cells cur 2 (0, 0)) → n ≤ cap' → cap' ≤ 9223372036854775807 → cur.size = cap' → cur.toList.take n = (asc n).map (Value.int .i64) →
      Calls Try.prog 88 #[.slice (some ⟨gb, 0, none⟩) n cap', .int .i64 k, .int .i64 ((k : Int) + 1)] w1 fun e w' => e = .returned (.slice (some ⟨gb, 0, none⟩) (n - 1) cap') ∧ (∃ cur', w'.heap[gb]? = some (.cells cur' 2 (0, 0)) ∧ cur'.size = cap' ∧ cur'.toList.take (n - 1) = news.map (Value.int .i64)) ∧ ∀ B, B ≤ gb → Below B w1 w' := by
    intro gb cap' cur w1 hgb r1 hm hcap r4
    have hH : Go.Sort.Holds (Value.int .i64) w1 gb 0 (asc n).toArray := holds_of_block_i hgb (by rw [hal]; exact r4)
    have h := Try.slices_Delete_int gb 0 cap' k (k + 1) (asc n) w1 hH (by omega) hm (by omega) (by omega)
    rw [hal, Nat.add_sub_cancel_left, ← hnews] at h
    refine h.mono ?_
    rintro e w2 ⟨rfl, q, rfl⟩
    refine ⟨rfl, ⟨_, putRow_blk _ hgb, by simp [Go.Sort.putCells, hcap], ?_⟩, fun B hB => putRow_below _ hB⟩
    have h2 := take_putCells_i cur (news ++ List.replicate 1 (0 : Int)) (by simp; omega)
    have h3 := congrArg (List.take (n - 1)) h2
    rw [List.take_take] at h3
    rw [show min (n - 1) (news ++ List.replicate 1 (0 : Int)).length = n - 1 from by simp; omega] at h3
    refine h3.trans ?_
    rw [List.map_append, List.take_append_of_le_length (by simp; omega), List.take_of_length_le (by simp; omega)]
  have cI : ∀ (gb cap' : Nat) (cur : Array Value) (w2 : World), w2.heap[gb]? = some (.cells cur 2 (0, 0)) → n ≤ cap' → cap' ≤ 9223372036854775807 → cur.size = cap' → cur.toList.take (n - 1) = news.map (Value.int .i64) →
      Calls Try.prog 89 #[.slice (some ⟨gb, 0, none⟩) (n - 1) cap', .int .i64 0, .slice (some ⟨w2.heap.size, 0, none⟩) 1 1] (w2.alloc (.cells #[.int .i64 k] 2)) fun e w' => ∃ v, e = .returned v ∧ Kd.R (Kd.int .i64) 2 w' gb (fun _ => True) v (mvd n k) ∧ ∀ B, B ≤ gb → Below B w2 w' := by
    intro gb cap' cur w2 hgb r1 hm hcap r4
    have hlt := blk_lt hgb
    refine (insFront gb (n - 1) cap' w2.heap.size cur (.int .i64 k) _ _ (blk_alloc hgb _) hcap (by omega) hm r4 (by simp [Value.oneCell']) (by simp [Value.oneCell']) (by omega) (blk_new w2 _)).mono ?_
    rintro e w3 ⟨rfl, cur', hg3, hs3, ht3, hb3⟩
    have hlen : (mvd n k).length = n - 1 + 1 := by rw [hmv]; simp [hnl]
    refine ⟨_, rfl, ?_, fun B hB => ((Below.refl B w2).alloc (by omega) _).trans (hb3 B hB)⟩
    refine Kd.R_of_own (xs := mvd n k) ⟨by simp [encs], .inr ⟨gb, cap', cur', by rw [hlen], Nat.le_refl _, hg3, by omega, by simp [maxLen]; omega, by simpa using hs3, ?_⟩⟩ (fun _ _ => trivial)
    rw [hlen, Nat.mul_one, ht3, hmv]
    rfl
  have HM := Aside0.mk hmv
  clear hnl hmv hal hnews
  go_enter Try.func45, Try.ntmps45
  go_wp2_with (first
    | (go_at_call 48; refine (hasc _).mono ?_; rintro e w1 ⟨gb, cap', cur, rfl, hbase, hgb, r1, r2, r3, r4, hb⟩)
    | (go_at_call 88; refine (cD gb cap' cur w1 hgb r1 r2 r3 r4).mono ?_; rintro e w2 ⟨rfl, ⟨cur2, hg2, hs2, ht2⟩, hb2⟩)
    | (go_at_call 89; refine (cI gb cap' cur2 w2 hg2 r1 r2 hs2 ht2).mono ?_; rintro e w3 ⟨v, rfl, hR, hb3⟩))
  go_ret
  exact ⟨_, rfl, Kd.R_lower hR hbase, (hb.trans (hb2 _ hbase)).trans (hb3 _ hbase)⟩

theorem isWays_inR (n : Int) : impl_isWays.f n = some (inR 1 6 n) := by
  unfold impl_isWays.f impl_inRange.f inR
  by_cases h : 1 ≤ n
  · rw [if_pos h]; simp [h]
  · rw [if_neg h]; simp [h]

def polT7 : Bool × List (List Nat × List Nat) := (true, [([], []), ([0], [0]), ([], []), ([], []), ([2, 3], [2, 3]), ([4], [4]), ([1, 5, 4], [1, 5]), ([0, 1, 2, 3, 4, 5, 6], []), ([7, 6, 6, 0, 1, 2, 3, 4, 5, 6], [6, 7])])
def polB7 : List Nat := [0, 1, 0, 0, 12, 28, 63, 127, 255]
theorem pol_tab7 : rtab .any (opsOf Try.f43 7) = polT7 := by kernel_rfl
theorem pol_bits7 : waitsOk polT7.2 polB7 = true := by kernel_rfl
set_option maxHeartbeats 4000000 in
set_option maxRecDepth 100000 in
/-- The policy whose elements two function values tell. -/
theorem policyOfCalls (n : Nat) (hn1 : 1 ≤ n) (hn : n ≤ 6) (g1 g2 : Nat) (lb1 lb2 : Array Value) (H : Nat → List Int) (M : List Int) (w : World)
    (eg1 : ∀ args w, (callFunc g1 args).run Try.prog w = .ok (.enter g1 args) w) (eg2 : ∀ args w, (callFunc g2 args).run Try.prog w = .ok (.enter g2 args) w)
    (h1 : ∀ (W : World) (i : Nat), i < n → Below w.heap.size w W → Calls Try.prog g1 (#[.int .i64 i] ++ lb1) W fun e w' => ∃ v, e = .returned v ∧ Kd.R (Kd.int .i64) 2 w' W.heap.size (fun _ => True) v (H i) ∧ Below W.heap.size W w')
    (h2 : ∀ (W : World), Below w.heap.size w W → Calls Try.prog g2 lb2 W fun e w' => ∃ v, e = .returned v ∧ Kd.R (Kd.int .i64) 2 w' W.heap.size (fun _ => True) v M ∧ Below W.heap.size W w') :
    Calls Try.prog 43 #[.int .i64 n, .func (.func g1) #[] lb1, .func (.func g2) #[] lb2] w fun e w' => ∃ v0_ v1_ : Value, e = .returned (.tuple #[.agg #[v0_, v1_], .bool true]) ∧ Kd.S (Kd.slice 2 (Kd.int .i64)) 24 w' w.heap.size (fun k_ => some k_ ≠ (v1_ : Value).ownBlock) v0_ ((List.range n).map H) ∧ Kd.R (Kd.int .i64) 2 w' w.heap.size (fun _ => True) v1_ M ∧ Below w.heap.size w w' := by
  have hu29 := Try.underlying29
  have HB := Aside0.mk (Below.refl w.heap.size w)
  have hw : impl_isWays.f n = some true := by rw [isWays_inR]; simp [inR]; omega
  have hways := fun W => impl_isWays.calls n true W hw
  have H1 := Aside0.mk h1
  have H2 := Aside0.mk h2
  clear hw h1 h2
  go_enter Try.func43, Try.ntmps43
  go_wp2_with (first
    | ((with_reducible refine gate_dst (N := 6) rfl ?_); refine box_event ?hg (N := 6) ?hd (cs := #[.slice none 0 0, .slice none 0 0]) (t := 29) ?hr ?_; (case hd => rfl); (case hg => rfl); (case hr => first | (go_simp; done) | (go_simp; rfl)); intro gbR hg w3 hbox hb; have n0_ := Aside0.mk (below_step (by repeat (first | (with_reducible first | exact HB.out | apply below_alloc | apply pw_below_drewN | apply below_drew1) | exact HB.out)) hb); have BKR := Aside0.mk hbox; have GER := Aside0.mk ((by rw [hg]; exact (below_size (by repeat (first | (with_reducible first | exact HB.out | apply below_alloc | apply pw_below_drewN | apply below_drew1) | exact HB.out)))) : w.heap.size ≤ gbR); clear HB; have HB := n0_; clear n0_ hb hbox hg)
    | (go_at_call 87; refine (hways _).mono ?_; rintro e w4 ⟨rfl, ⟨nd, rfl⟩⟩)
    | ((with_reducible refine gate_dst (N := 8) rfl ?_); refine box_event ?hg (N := 8) ?hd (cs := #[.slice none 0 0, .slice none 0 0]) (t := 29) ?hr ?_; (case hd => rfl); (case hg => rfl); (case hr => first | (go_simp; done) | (go_simp; rfl)); intro gbP hg w6 hbox hb
       have n1_ := Aside0.mk (blk_below (g := gbR) (o := .cells #[.slice none 0 0, .slice none 0 0] 29 (0, 0)) (by (with_reducible repeat (first | refine blk_drewN ?_ _ | refine blk_drew ?_ | refine blk_alloc ?_ _)); exact BKR.out) hb)
       have n2_ := Aside0.mk (below_step (by repeat (first | (with_reducible first | exact HB.out | apply below_alloc | apply pw_below_drewN | apply below_drew1 | refine below_set ?_ GER.out) | exact HB.out)) hb)
       have BKP := Aside0.mk hbox
       have GEP := Aside0.mk ((by rw [hg]; exact (below_size (by repeat (first | (with_reducible first | exact HB.out | apply below_alloc | apply pw_below_drewN | apply below_drew1 | refine below_set ?_ GER.out) | exact HB.out)))) : w.heap.size ≤ gbP)
       have NBRP := Aside0.mk ((by rw [hg]; exact Nat.ne_of_lt (blk_lt (g := gbR) (o := .cells #[.slice none 0 0, .slice none 0 0] 29 (0, 0)) (by (with_reducible repeat (first | refine blk_drewN ?_ _ | refine blk_drew ?_ | refine blk_alloc ?_ _)); exact BKR.out))) : gbR ≠ gbP)
       have NBPR := Aside0.mk ((by rw [hg]; exact Nat.ne_of_gt (blk_lt (g := gbR) (o := .cells #[.slice none 0 0, .slice none 0 0] 29 (0, 0)) (by (with_reducible repeat (first | refine blk_drewN ?_ _ | refine blk_drew ?_ | refine blk_alloc ?_ _)); exact BKR.out))) : gbP ≠ gbR)
       clear HB BKR
       have BKR := n1_; have HB := n2_
       clear n1_ n2_ hb hbox hg
       have hnb7 := NBPR.out; have hnc7 := NBRP.out; have hcz8_0 : w6.cell? ⟨gbP, 0, none⟩ = some (.slice none 0 0) := (blk_cell BKP.out 0).trans rfl; have hcz8_1 : w6.cell? ⟨gbP, 1, none⟩ = some (.slice none 0 0) := (blk_cell BKP.out 1).trans rfl; have hfz8_0 := blk_frozen BKP.out 0; have hfz8_1 := blk_frozen BKP.out 1))
  go_loopg [16] n (fun gg v16 wr => ∃ (kk : Nat) (u : Value), v16 = .int .i64 kk ∧ Aside0 (kk ≤ n ∧ n - kk ≤ gg) ∧ Aside0 (Kd.S (Kd.slice 2 (Kd.int .i64)) 24 wr w.heap.size (fun _ => True) u ((List.range kk).map H)) ∧ Aside0 (wr.heap[gbR]? = some (.cells #[.slice none 0 0, .slice none 0 0] 29 (0, 0))) ∧ Aside0 (wr.heap[gbP]? = some (.cells #[u, .slice none 0 0] 29 (0, 0))) ∧ Aside0 (Below w.heap.size w wr))
  case atStart => exact ⟨0, .slice none 0 0, rfl, ⟨by omega⟩, ⟨Kd.S_nil _ _ _ _ _⟩, ⟨by (with_reducible repeat (first | refine blk_drewN ?_ _ | refine blk_drew ?_ | refine blk_alloc ?_ _)); refine blk_far ?_ NBRP.out _; (with_reducible repeat (first | refine blk_drewN ?_ _ | refine blk_drew ?_ | refine blk_alloc ?_ _)); refine blk_far ?_ NBRP.out _; (with_reducible repeat (first | refine blk_drewN ?_ _ | refine blk_drew ?_ | refine blk_alloc ?_ _)); exact BKR.out⟩, ⟨by (with_reducible repeat (first | refine blk_drewN ?_ _ | refine blk_drew ?_ | refine blk_alloc ?_ _)); refine blk_put (cs := #[.slice none 0 0, .slice none 0 0]) ?_ 1 _ rfl; (with_reducible repeat (first | refine blk_drewN ?_ _ | refine blk_drew ?_ | refine blk_alloc ?_ _)); refine blk_put (cs := #[.slice none 0 0, .slice none 0 0]) ?_ 0 _ rfl; (with_reducible repeat (first | refine blk_drewN ?_ _ | refine blk_drew ?_ | refine blk_alloc ?_ _)); exact BKP.out⟩, ⟨by repeat (first | (with_reducible first | exact HB.out | apply below_alloc | apply pw_below_drewN | apply below_drew1 | refine below_set ?_ GER.out | refine below_set ?_ GEP.out) | exact HB.out)⟩⟩
  case round =>
    clear hnb7 hnc7 hcz8_0 hcz8_1 hfz8_0 hfz8_1 BKR BKP HB
    obtain ⟨kk, u, rfl, HK, HS, BKR, BKP, HB⟩ := hrel
    by_cases hlt : kk < n
    · have hlz : (kk : Int) < (n : Int) := by omega
      try go_wp2
      have n0_ := Aside0.mk (Kd.S_drew HS.out)
      have n1_ := Aside0.mk (blk_drew BKR.out)
      have n2_ := Aside0.mk (blk_drew BKP.out)
      have n3_ := Aside0.mk (below_drew1 HB.out)
      clear HS BKR BKP HB
      have HS := n0_; have BKR := n1_; have BKP := n2_; have HB := n3_
      clear n0_ n1_ n2_ n3_
      refine start_ (n := 9) (S := fun w' => w'.cell? ⟨gbP, 0, none⟩ = some u ∧ w'.cell? ⟨gbP, 1, none⟩ = some (.slice none 0 0)) (ds := [8]) #[false, false, false, false, false, false, false, false, false] (by kernel_rfl) rfl rfl ⟨(blk_cell BKP.out 0).trans rfl, (blk_cell BKP.out 1).trans rfl⟩ (fun hHeld => ?_); refine with_tabW pol_tab7 pol_bits7 (fun HT_ HW_ => ?_)
      generalize wr.drew = w12 at HS BKR BKP HB hHeld ⊢
      refine pure_ (i := 0) (N := some 19) (v := ?_) (a' := ?_) #[true, false, false, false, false, false, false, false, false] rfl rfl (any_of HT_.out (by kernel_rfl)) (fun _ _ _ h => h) (Or.inl ⟨by rfl, ?_⟩) ?_ ?_
      rotate_left
      · intro w'
        go_simp
        with_reducible rfl
      rotate_left
      · simp only [Act.put, List.setIfInBounds_toArray, List.set_cons_zero, List.set_cons_succ, i64_w, i32_w]
        rfl
      refine pure_ (i := 2) (N := some 21) (v := ?_) (a' := ?_) #[true, false, true, false, false, false, false, false, false] rfl rfl (any_of HT_.out (by kernel_rfl)) (fun _ _ _ h => h) (Or.inl ⟨by rfl, ?_⟩) ?_ ?_
      rotate_left
      · intro w'
        go_simp
        with_reducible rfl
      rotate_left
      · simp only [Act.put, List.setIfInBounds_toArray, List.set_cons_zero, List.set_cons_succ, i64_w, i32_w]
        rfl
      refine pure_ (i := 3) (N := some 22) (v := ?_) (a' := ?_) #[true, false, true, true, false, false, false, false, false] rfl rfl (any_of HT_.out (by kernel_rfl)) (fun _ _ _ h => h) (Or.inl ⟨by rfl, ?_⟩) ?_ ?_
      rotate_left
      · intro w'
        go_simp
        with_reducible rfl
      rotate_left
      · simp only [Act.put, List.setIfInBounds_toArray, List.set_cons_zero, List.set_cons_succ, i64_w, i32_w]
        rfl
      refine take_ (i := 1) (N := some 20) (v := ?_) (a' := ?_) #[true, true, true, true, false, false, false, false, false] rfl rfl (take_ofW HT_.out HW_.out (by kernel_rfl)) (fun _ _ _ h => h) (Or.inl ⟨by rfl, ?_⟩) hHeld ?_ ?_
      rotate_left
      · rintro w' ⟨s0, s1⟩
        go_simp
        with_reducible rfl
      rotate_left
      · simp only [Act.put, List.setIfInBounds_toArray, List.set_cons_zero, List.set_cons_succ, i64_w, i32_w]
        rfl
      refine one_ (i := 4) (N := some 23) #[true, true, true, true, true, false, false, false, false] rfl rfl (one_of HT_.out (by kernel_rfl)) (by decide) (fun K hK => ?_)
      refine call_ g1 (#[.int .i64 kk] ++ lb1) (by rfl) rfl (by unfold execOp; simp [resolve, Deferred.ofValue, invoke, Act.eval, eg1]) ?_
      refine (H1.out _ kk hlt HB.out).mono ?_
      rintro e w13 ⟨v225, rfl, ho0, hb⟩
      refine ⟨_, rfl, ?_⟩
      have n0_ := Aside0.mk (Kd.S_elder' HS.out (Kd.R_base ho0) hb)
      have n1_ := Aside0.mk (Kd.R_lower ho0 (below_size HB.out))
      have n2_ := Aside0.mk (blk_below BKR.out hb)
      have n3_ := Aside0.mk (blk_below BKP.out hb)
      have n4_ := Aside0.mk (below_step HB.out hb)
      clear HS BKR BKP HB
      have HS := n0_; have HO := n1_; have BKR := n2_; have BKP := n3_; have HB := n4_
      clear n0_ n1_ n2_ n3_ n4_ hb ho0
      obtain ⟨Ao15, co15, eo15⟩ := Kd.R_slice HO.out
      subst eo15
      refine hK.out _ _ ⟨(blk_cell BKP.out 0).trans rfl, (blk_cell BKP.out 1).trans rfl⟩ (fun hHeld => ?_)
      clear hK K
      refine norm_ (a' := ?_) ?_ ?_
      rotate_left
      · show Act.put _ (some 23) _ = _
        simp only [Act.put, List.setIfInBounds_toArray, List.set_cons_zero, List.set_cons_succ, i64_w, i32_w]
        rfl
      refine one_ (i := 5) (N := some 24) #[true, true, true, true, true, true, false, false, false] rfl rfl (one_of HT_.out (by kernel_rfl)) (by decide) (fun K hK => ?_)
      refine value_ (w1 := ?_) (v := ?_) (by rfl) rfl ?_ ?_
      rotate_left 2
      · go_simp
        constructor
        · rfl
        · rfl
      refine hK.out _ _ ⟨(blk_cell (blk_alloc BKP.out _) 0).trans rfl, (blk_cell (blk_alloc BKP.out _) 1).trans rfl⟩ (fun hHeld => ?_)
      clear hK K
      refine norm_ (a' := ?_) ?_ ?_
      rotate_left
      · show Act.put _ (some 24) _ = _
        simp only [Act.put, List.setIfInBounds_toArray, List.set_cons_zero, List.set_cons_succ, i64_w, i32_w]
        rfl
      refine one_ (i := 6) (N := some 25) #[true, true, true, true, true, true, true, false, false] rfl rfl (one_of HT_.out (by kernel_rfl)) (by decide) (fun K hK => ?_)
      refine Kd.S_append_step (Kd.slice 2 (Kd.int .i64)) (w0 := w) w.heap.size (by rfl) (.tmp 20) (.tmp 24) 27 24 (.slice none 0 0) 24 rfl Try.underlying27 info24 rfl (by decide) (by omega) u ((List.range kk).map H) (H kk) [.slice Ao15 (H kk).length co15] (fun _ => True) (fun k_ => some k_ = (.slice Ao15 (H kk).length co15 : Value).ownBlock) rfl rfl ?aP (fun k_ hk_ => ((Kd.R_mono (ok' := fun k_ => True ∧ some k_ ≠ (u : Value).ownBlock) (Kd.R_apart' (HO.out) (Kd.S_typed HS.out) (by decide)) (fun k_ hk => hk))).1 k_ hk_.symm) ?aF ?aO ?aB ?aS ?aL ?_
      (case aP => exact Kd.M_row (Kd.R_mono (Kd.R_tight rfl (Kd.R_mono (ok' := fun k_ => True ∧ some k_ ≠ (u : Value).ownBlock) (Kd.R_apart' (HO.out) (Kd.S_typed HS.out) (by decide)) (fun k_ hk => hk))) (fun _ h_ => h_)))
      (case aB => exact HB.out)
      (case aF => exact (fun _ _ => trivial))
      (case aO => exact Kd.S_mono HS.out (fun k_ hk => ⟨hk.1, fun e_ => hk.2 e_⟩))
      (case aS => exact (below_size HB.out))
      (case aL => simp; omega)
      intro v228 w14 ho hb hg hat
      have n1_ := Aside0.mk (blk_grown (g := gbR) (o := .cells #[.slice none 0 0, .slice none 0 0] 29 (0, 0)) BKR.out hg (Kd.S_ne HS.out BKR.out (by decide)))
      have n2_ := Aside0.mk (blk_grown (g := gbP) (o := .cells #[u, .slice none 0 0] 29 (0, 0)) BKP.out hg (Kd.S_ne HS.out BKP.out (by decide)))
      have n3_ := Aside0.mk (hb)
      have hrg : (List.range kk).map H ++ [H kk] = (List.range (kk + 1)).map H := by rw [List.range_succ, List.map_append]; rfl
      rw [hrg] at ho
      have hll : ((List.range (kk + 1)).map H).length = kk + 1 := by simp
      obtain ⟨Ao16, co16, eo16⟩ := Kd.S_slice ho
      rw [hll] at eo16
      subst eo16
      have n4_ := Aside0.mk (ho)
      clear BKR BKP HB HS HO hrg hll
      have BKR := n1_; have BKP := n2_; have HB := n3_; have HS := n4_
      clear n1_ n2_ n3_ n4_ ho hb hg hat
      refine hK.out _ _ ⟨(blk_cell BKP.out 0).trans rfl, (blk_cell BKP.out 1).trans rfl⟩ (fun hHeld => ?_)
      clear hK K
      refine norm_ (a' := ?_) ?_ ?_
      rotate_left
      · show Act.put _ (some 25) _ = _
        simp only [Act.put, List.setIfInBounds_toArray, List.set_cons_zero, List.set_cons_succ, i64_w, i32_w]
        rfl
      refine pure_ (i := 7) (N := some 26) (v := ?_) (a' := ?_) #[true, true, true, true, true, true, true, true, false] rfl rfl (any_of HT_.out (by kernel_rfl)) (fun _ _ _ h => h) (Or.inl ⟨by rfl, ?_⟩) ?_ ?_
      rotate_left
      · intro w'
        go_simp
        with_reducible rfl
      rotate_left
      · simp only [Act.put, List.setIfInBounds_toArray, List.set_cons_zero, List.set_cons_succ, i64_w, i32_w]
        rfl
      refine last_ (i := 8) (N := none) #[true, true, true, true, true, true, true, true, true] rfl rfl (one_of HT_.out (by kernel_rfl)) (by decide) (fun K hK => ?_)
      have hs17 : w14.cell? ⟨gbP, 0, none⟩ = some (u) := (blk_cell BKP.out 0).trans rfl
      have hfs17 := blk_frozen BKP.out 0
      have hns17_0 := NBRP.out
      have hms17_0 := NBPR.out
      refine skip_ (w1 := ?_) (by rfl) rfl ?_ ?_
      rotate_left
      · go_simp
        rfl
      refine hK.out _ _ ?_
      clear hK K
      refine done_ (done_of HT_.out (by kernel_rfl)) ?_
      try go_wp2
      go_roundg (n - (kk + 1))
      case measure => have := HK.out; omega
      case rel =>
        refine ⟨kk + 1, (.slice Ao16 (kk + 1) co16), by go_num, ⟨by have := HK.out; omega⟩, ⟨Kd.S_mono (Kd.S_far (p := ⟨gbP, 0, none⟩) (Kd.S_types HS.out BKP.out (by decide)) (fun _ hk => hk.2) _) (fun _ hk => hk.1)⟩, ⟨?_⟩, ⟨?_⟩, ⟨by repeat (first | (with_reducible first | exact HB.out | apply below_alloc | apply pw_below_drewN | apply below_drew1 | refine below_set ?_ GER.out | refine below_set ?_ GEP.out) | exact HB.out)⟩⟩
        · (with_reducible repeat (first | refine blk_drewN ?_ _ | refine blk_drew ?_ | refine blk_alloc ?_ _)); refine blk_far ?_ NBRP.out _; (with_reducible repeat (first | refine blk_drewN ?_ _ | refine blk_drew ?_ | refine blk_alloc ?_ _)); exact BKR.out
        · (with_reducible repeat (first | refine blk_drewN ?_ _ | refine blk_drew ?_ | refine blk_alloc ?_ _)); refine blk_put (cs := #[u, .slice none 0 0]) ?_ 0 _ rfl; (with_reducible repeat (first | refine blk_drewN ?_ _ | refine blk_drew ?_ | refine blk_alloc ?_ _)); exact BKP.out
    · have hlz : ¬ (kk : Int) < (n : Int) := by omega
      obtain rfl : kk = n := by have := HK.out; omega
      obtain ⟨Ao20, co20, eo20⟩ := Kd.S_slice HS.out
      rw [show ((List.range kk).map H).length = kk from by simp] at eo20
      subst eo20
      go_wp2_with (go_at_fn g2; refine (H2.out _ HB.out).mono ?_; rintro e w5 ⟨v1, rfl, ho0, hb⟩
                   have n0_ := Aside0.mk (Kd.S_elder' HS.out (Kd.R_base ho0) hb)
                   have n1_ := Aside0.mk (Kd.R_lower ho0 (below_size HB.out))
                   have n2_ := Aside0.mk (blk_below BKR.out hb)
                   have n3_ := Aside0.mk (blk_below BKP.out hb)
                   have n4_ := Aside0.mk (below_step HB.out hb)
                   clear HS BKR BKP HB
                   have HS := n0_; have HO := n1_; have BKR := n2_; have BKP := n3_; have HB := n4_
                   clear n0_ n1_ n2_ n3_ n4_ hb ho0
                   obtain ⟨Ao15, co15, eo15⟩ := Kd.R_slice HO.out
                   subst eo15
                   have hp0 : w5.cell? ⟨gbP, 0, none⟩ = some (.slice Ao20 kk co20) := (blk_cell BKP.out 0).trans rfl
                   have hp1 : w5.cell? ⟨gbP, 1, none⟩ = some (.slice none 0 0) := (blk_cell BKP.out 1).trans rfl
                   have hfp0 := blk_frozen BKP.out 0; have hfp1 := blk_frozen BKP.out 1
                   have hr0 : w5.cell? ⟨gbR, 0, none⟩ = some (.slice none 0 0) := (blk_cell BKR.out 0).trans rfl
                   have hr1 : w5.cell? ⟨gbR, 1, none⟩ = some (.slice none 0 0) := (blk_cell BKR.out 1).trans rfl
                   have hfr0 := blk_frozen BKR.out 0; have hfr1 := blk_frozen BKR.out 1
                   have hnb := NBPR.out; have hnc := NBRP.out)
      have hfin := blk_put (cs := #[.slice Ao20 kk co20, .slice none 0 0]) (blk_put (cs := #[.slice none 0 0, .slice none 0 0]) (blk_far BKR.out (p := ⟨gbP, 1, none⟩) NBRP.out (.slice Ao15 M.length co15)) 0 (.slice Ao20 kk co20) rfl) 1 (.slice Ao15 M.length co15) rfl
      have hl := run_loadVar_row (P := Try.prog) _ gbR 29 29 _ (0, 0) _ hfin Try.underlying29 rfl (by kernel_rfl)
      have s1 := Kd.S_far (p := ⟨gbP, 1, none⟩) (Kd.S_types HS.out BKP.out (by decide)) (fun _ hk => hk.2) (.slice Ao15 M.length co15)
      have r1 := Kd.R_far (p := ⟨gbP, 1, none⟩) (Kd.R_types HO.out BKP.out (by decide)) (fun _ hk => hk.2) (.slice Ao15 M.length co15)
      have hbr := blk_far BKR.out (p := ⟨gbP, 1, none⟩) NBRP.out (.slice Ao15 M.length co15)
      have s2 := Kd.S_far (p := ⟨gbR, 1, none⟩) (Kd.S_far (p := ⟨gbR, 0, none⟩) (Kd.S_types s1 hbr (by decide)) (fun _ hk => hk.2) (.slice Ao20 kk co20)) (fun _ hk => hk.2) (.slice Ao15 M.length co15)
      have r2 := Kd.R_far (p := ⟨gbR, 1, none⟩) (Kd.R_far (p := ⟨gbR, 0, none⟩) (Kd.R_types r1 hbr (by decide)) (fun _ hk => hk.2) (.slice Ao20 kk co20)) (fun _ hk => hk.2) (.slice Ao15 M.length co15)
      refine bodyPost_ret (v := .tuple #[.agg #[.slice Ao20 kk co20, .slice Ao15 M.length co15], .bool true]) ?_ rfl ?_
      · rw [results_cell_tmp (by rfl)]
        simp [asAddr, hl]
      · exact ⟨_, _, rfl, Kd.S_mono s2 (fun _ hk => hk.1.1.2), Kd.R_mono r2 (fun _ _ => trivial), below_set (below_set (below_set HB.out GEP.out) GER.out) GER.out⟩

theorem ascR (n : Nat) (hn : n ≤ 6) (W : World) : Calls Try.prog 48 #[.int .i64 n] W fun e w' => ∃ v, e = .returned v ∧ Kd.R (Kd.int .i64) 2 w' W.heap.size (fun _ => True) v (asc n) ∧ Below W.heap.size W w' := by
  obtain ⟨ka, ha⟩ := asc_f n (by omega)
  exact impl_ascending.calls ka n (asc n) W ha
theorem lru1 (n k B : Nat) (hn : n ≤ 6) (hk : k < n) (W : World) (hb : W.cell? ⟨B, 0, none⟩ = some (.int .i64 n)) :
    Calls Try.prog 44 #[.int .i64 k, .pointer (some ⟨B, 0, none⟩)] W fun e w' => ∃ v, e = .returned v ∧ Kd.R (Kd.int .i64) 2 w' W.heap.size (fun _ => True) v (mvd n k) ∧ Below W.heap.size W w' := by
  have hm := movedCalls n k hn hk W
  go_enter Try.func44, Try.ntmps44
  go_wp2_with (go_at_call 45; refine hm.mono ?_; rintro e w' ⟨v, rfl, hR, hb⟩)
  go_ret
  exact ⟨_, rfl, hR, hb⟩
theorem fifo1 (n k B : Nat) (hn : n ≤ 6) (W : World) (hb : W.cell? ⟨B, 0, none⟩ = some (.int .i64 n)) :
    Calls Try.prog 47 #[.int .i64 k, .pointer (some ⟨B, 0, none⟩)] W fun e w' => ∃ v, e = .returned v ∧ Kd.R (Kd.int .i64) 2 w' W.heap.size (fun _ => True) v (asc n) ∧ Below W.heap.size W w' := by
  have hm := ascR n hn W
  go_enter Try.func47, Try.ntmps47
  go_wp2_with (go_at_call 48; refine hm.mono ?_; rintro e w' ⟨v, rfl, hR, hb⟩)
  go_ret
  exact ⟨_, rfl, hR, hb⟩
theorem lru2 (n B : Nat) (hn1 : 1 ≤ n) (hn : n ≤ 6) (W : World) (hb : W.cell? ⟨B, 0, none⟩ = some (.int .i64 n)) :
    Calls Try.prog 46 #[.pointer (some ⟨B, 0, none⟩)] W fun e w' => ∃ v, e = .returned v ∧ Kd.R (Kd.int .i64) 2 w' W.heap.size (fun _ => True) v (mvd n (n - 1)) ∧ Below W.heap.size W w' := by
  have hm := movedCalls n (n - 1) hn (by omega) W
  have hw : IntKind.i64.wrap ((n : Int) - 1) = ((n - 1 : Nat) : Int) := by rw [IntKind.wrap_i64]; omega
  generalize n - 1 = q at hm hw ⊢
  go_enter Try.func46, Try.ntmps46
  go_wp2_with (go_at_call 45; refine hm.mono ?_; rintro e w' ⟨v, rfl, hR, hb⟩)
  go_ret
  exact ⟨_, rfl, hR, hb⟩
theorem fifo2 (n B : Nat) (hn1 : 1 ≤ n) (hn : n ≤ 6) (W : World) (hb : W.cell? ⟨B, 0, none⟩ = some (.int .i64 n)) :
    Calls Try.prog 49 #[.pointer (some ⟨B, 0, none⟩)] W fun e w' => ∃ v, e = .returned v ∧ Kd.R (Kd.int .i64) 2 w' W.heap.size (fun _ => True) v (mvd n (n - 1)) ∧ Below W.heap.size W w' := by
  have hm := movedCalls n (n - 1) hn (by omega) W
  have hw : IntKind.i64.wrap ((n : Int) - 1) = ((n - 1 : Nat) : Int) := by rw [IntKind.wrap_i64]; omega
  generalize n - 1 = q at hm hw ⊢
  go_enter Try.func49, Try.ntmps49
  go_wp2_with (go_at_call 45; refine hm.mono ?_; rintro e w' ⟨v, rfl, hR, hb⟩)
  go_ret
  exact ⟨_, rfl, hR, hb⟩

/-! ### impl_LruPolicy: function 11 -/
def impl_LruPolicy.f (a0 : Int) : Option (List (List Int) × List Int × Bool) := if 1 ≤ a0 ∧ a0 ≤ 6 then some ((List.range a0.toNat).map (mvd a0.toNat), mvd a0.toNat (a0.toNat - 1), true) else none
set_option maxHeartbeats 2000000 in
theorem impl_LruPolicy.calls (a0 : Int) (r1 : List (List Int)) (r2 : List Int) (r3 : Bool) (w : World) (h : impl_LruPolicy.f a0 = some (r1, r2, r3)) :
    Calls Try.prog 11 #[.int .i64 a0] w fun e w' => ∃ v0_ v1_ : Value, e = .returned (.tuple #[.agg #[v0_, v1_], .bool r3]) ∧ Kd.S (Kd.slice 2 (Kd.int .i64)) 24 w' w.heap.size (fun k_ => some k_ ≠ (v1_ : Value).ownBlock) v0_ r1 ∧ Kd.R (Kd.int .i64) 2 w' w.heap.size (fun _ => True) v1_ r2 ∧ Below w.heap.size w w' := by
  unfold impl_LruPolicy.f at h
  by_cases hc : 1 ≤ a0 ∧ a0 ≤ 6
  · rw [if_pos hc] at h
    obtain ⟨n, rfl⟩ : ∃ n : Nat, a0 = n := ⟨a0.toNat, by omega⟩
    rw [Int.toNat_natCast] at h
    simp only [Option.some.injEq, Prod.mk.injEq] at h
    obtain ⟨rfl, rfl, rfl⟩ := h
    have hn1 : 1 ≤ n := by omega
    have hn : n ≤ 6 := by omega
    clear hc
    have hu29 := Try.underlying29
    obtain ⟨W0, hW0⟩ : ∃ W0, W0 = (w.alloc (.cells #[.int .i64 n] 2)).alloc (.cells #[.slice none 0 0, .slice none 0 0] 29) := ⟨_, rfl⟩
    have hb0 : W0.heap[w.heap.size]? = some (.cells #[.int .i64 n] 2 (0, 0)) := by rw [hW0]; exact blk_alloc (blk_new w _) _
    have hs1 : (w.alloc (.cells #[.int .i64 n] 2)).heap.size = w.heap.size + 1 := by simp
    have hb1 : W0.heap[w.heap.size + 1]? = some (.cells #[.slice none 0 0, .slice none 0 0] 29 (0, 0)) := by rw [hW0, ← hs1]; exact blk_new _ _
    have HW : Below w.heap.size w W0 := by rw [hW0]; exact ((Below.refl _ _).alloc (Nat.le_refl _) _).alloc (by simp) _
    have hlt := blk_lt hb1
    have hpol := policyOfCalls n hn1 hn 44 46 #[.pointer (some ⟨w.heap.size, 0, none⟩)] #[.pointer (some ⟨w.heap.size, 0, none⟩)] (mvd n) (mvd n (n - 1)) W0 (enters_of Try.func44 (by kernel_rfl) rfl) (enters_of Try.func46 (by kernel_rfl) rfl)
      (fun W i hi hB => lru1 n i w.heap.size hn hi W ((blk_cell (blk_below hb0 hB) 0).trans rfl))
      (fun W hB => lru2 n w.heap.size hn1 hn W ((blk_cell (blk_below hb0 hB) 0).trans rfl))
    have HB0 := Aside0.mk hb0
    have HB1 := Aside0.mk hb1
    have HWA := Aside0.mk HW
    have HLT := Aside0.mk hlt
    clear hb0 hb1 HW hlt hs1
    generalize (List.range n).map (mvd n) = rows at hpol ⊢
    generalize mvd n (n - 1) = ms at hpol ⊢
    rw [hW0] at hpol
    go_enter Try.func11, Try.ntmps11
    go_wp2_with (go_at_call 43; refine hpol.mono ?_; rw [← hW0]; rintro e w1 ⟨v0, v1, rfl, hS, hR, hb⟩
                 have hb1' := blk_below HB1.out hb
                 have hr0 : w1.cell? ⟨w.heap.size + 1, 0, none⟩ = some (.slice none 0 0) := (blk_cell hb1' 0).trans rfl
                 have hr1 : w1.cell? ⟨w.heap.size + 1, 1, none⟩ = some (.slice none 0 0) := (blk_cell hb1' 1).trans rfl
                 have hfr0 := blk_frozen hb1' 0; have hfr1 := blk_frozen hb1' 1
                 obtain ⟨Ao20, co20, eo20⟩ := Kd.S_slice hS
                 obtain ⟨Ao15, co15, eo15⟩ := Kd.R_slice hR
                 subst eo20
                 subst eo15
                 have HS := Aside0.mk hS
                 have HR := Aside0.mk hR
                 have HBB := Aside0.mk hb
                 have HB1' := Aside0.mk hb1'
                 clear hS hR hb hb1')
    have hfin := blk_put (cs := #[.slice Ao20 rows.length co20, .slice none 0 0]) (blk_put (cs := #[.slice none 0 0, .slice none 0 0]) HB1'.out 0 (.slice Ao20 rows.length co20) rfl) 1 (.slice Ao15 ms.length co15) rfl
    have hl := run_loadVar_row (P := Try.prog) _ (w.heap.size + 1) 29 29 _ (0, 0) _ hfin Try.underlying29 rfl (by kernel_rfl)
    have s2 := Kd.S_far (p := ⟨w.heap.size + 1, 1, none⟩) (Kd.S_far (p := ⟨w.heap.size + 1, 0, none⟩) (Kd.S_types HS.out HB1'.out (by decide)) (fun _ hk => hk.2) (.slice Ao20 rows.length co20)) (fun _ hk => hk.2) (.slice Ao15 ms.length co15)
    have r2 := Kd.R_far (p := ⟨w.heap.size + 1, 1, none⟩) (Kd.R_far (p := ⟨w.heap.size + 1, 0, none⟩) (Kd.R_types HR.out HB1'.out (by decide)) (fun _ hk => hk.2) (.slice Ao20 rows.length co20)) (fun _ hk => hk.2) (.slice Ao15 ms.length co15)
    have hB1 := below_then HWA.out HWA.out.size HBB.out
    refine bodyPost_ret (v := .tuple #[.agg #[.slice Ao20 rows.length co20, .slice Ao15 ms.length co15], .bool true]) ?_ rfl ?_
    · rw [results_cell_tmp (by rfl)]
      simp [asAddr, hl]
    · exact ⟨_, _, rfl, Kd.S_lower (Kd.S_mono s2 (fun _ hk => hk.1)) HWA.out.size, Kd.R_lower (Kd.R_mono r2 (fun _ _ => trivial)) HWA.out.size, below_set (below_set hB1 (Nat.le_succ _)) (Nat.le_succ _)⟩
  · rw [if_neg hc] at h
    exact absurd h (by simp)

/-! ### impl_length_int64_67: function 67 -/
def impl_length_int64_67.f (l0 : List Int) : Option (Int) := some (l0.length : Int)
set_option maxHeartbeats 8000000 in
set_option maxRecDepth 100000 in
theorem impl_length_int64_67.calls (A0 : Option Addr) (c0 : Nat) (l0 : List Int) (r : Int) (w : World) (hr0 : Kd.C (Kd.int .i64) w A0 l0.length l0) (hc0 : l0.length ≤ c0) (h : impl_length_int64_67.f l0 = some r) :
    Calls Try.prog 67 #[.slice A0 l0.length c0] w fun e w' => e = .returned (.int .i64 r) ∧ Drawn0 w w' := by
  have HR0 := Aside0.mk hr0
  have HC0 := Aside0.mk hc0
  clear hr0 hc0
  have H : (some (l0.length : Int)) = some r := h
  clear h
  obtain rfl := Option.some.inj H
  go_enter Try.func67, Try.ntmps67
  go_wp2
  go_ret
  exact ⟨by first | rfl | (simp; done) | (simp [*]; done), by repeat (first | exact Drawn0.refl _ | apply Drawn0.step)⟩

/-! ### impl_length_int64_90: function 90 -/
def impl_length_int64_90.f (l0 : List (List Int)) : Option (Int) := some (l0.length : Int)
set_option maxHeartbeats 8000000 in
set_option maxRecDepth 100000 in
theorem impl_length_int64_90.calls (A0 : Option Addr) (c0 : Nat) (l0 : List (List Int)) (r : Int) (w : World) (hr0 : Kd.C (Kd.slice 2 (Kd.int .i64)) w A0 l0.length l0) (hc0 : l0.length ≤ c0) (h : impl_length_int64_90.f l0 = some r) :
    Calls Try.prog 90 #[.slice A0 l0.length c0] w fun e w' => e = .returned (.int .i64 r) ∧ Drawn0 w w' := by
  have HR0 := Aside0.mk hr0
  have HC0 := Aside0.mk hc0
  clear hr0 hc0
  have H : (some (l0.length : Int)) = some r := h
  clear h
  obtain rfl := Option.some.inj H
  go_enter Try.func90, Try.ntmps90
  go_wp2
  go_ret
  exact ⟨by first | rfl | (simp; done) | (simp [*]; done), by repeat (first | exact Drawn0.refl _ | apply Drawn0.step)⟩

/-! ### slices_Equal_int64_int64: function 119 -/
def slices_Equal_int64_int64.l0 : Nat → List Int → List Int → Int → Int → Option (Bool)
  | 0, _, _, _, _ => none
  | k + 1, x0, x1, x12, x13 => if x13 < x12 then (if 0 ≤ x13 then (if x13 < (x0.length : Int) then (if x13 < (x1.length : Int) then (if (rd x0 x13) = (rd x1 x13) then (slices_Equal_int64_int64.l0 k x0 x1 x12 (wrap64 (x13 + 1))) else (some false)) else (none)) else (none)) else (none)) else (some true)
def slices_Equal_int64_int64.f (k : Nat) (l0 : List Int) (l1 : List Int) : Option (Bool) := if (l0.length : Int) = (l1.length : Int) then (slices_Equal_int64_int64.l0 k l0 l1 (l0.length : Int) 0) else (some false)
theorem slices_Equal_int64_int64.mono_l : ∀ k, (∀ y0 y1 y2 y3, LeO (slices_Equal_int64_int64.l0 k y0 y1 y2 y3) (slices_Equal_int64_int64.l0 (k + 1) y0 y1 y2 y3))
  | 0 => fun _ _ _ _ r h => by simp [slices_Equal_int64_int64.l0] at h
  | k + 1 => by
    have ih0 := slices_Equal_int64_int64.mono_l k
    · intro y0 y1 y2 y3
      unfold slices_Equal_int64_int64.l0
      repeat' first
      | (with_reducible exact ih0 _ _ _ _)
      | (with_reducible exact LeO.refl _)
      | (with_reducible exact LeO.none _)
      | (with_reducible refine LeO.ite ?_ ?_)
      | (with_reducible refine LeO.bind ?_ (fun _ => ?_))
      | exact ih0 _ _ _ _
      | exact LeO.none _
      | refine LeO.ite ?_ ?_
      | refine LeO.bind ?_ (fun _ => ?_)
theorem slices_Equal_int64_int64.mono : ∀ a0 a1 k, LeO (slices_Equal_int64_int64.f k a0 a1) (slices_Equal_int64_int64.f (k + 1) a0 a1) := by
  intro a0 a1 k
  have ih0 := slices_Equal_int64_int64.mono_l k
  unfold slices_Equal_int64_int64.f
  repeat' first
      | (with_reducible exact ih0 _ _ _ _)
      | (with_reducible exact LeO.refl _)
      | (with_reducible exact LeO.none _)
      | (with_reducible refine LeO.ite ?_ ?_)
      | (with_reducible refine LeO.bind ?_ (fun _ => ?_))
      | exact ih0 _ _ _ _
      | exact LeO.none _
      | refine LeO.ite ?_ ?_
      | refine LeO.bind ?_ (fun _ => ?_)
set_option maxHeartbeats 8000000 in
set_option maxRecDepth 100000 in
theorem slices_Equal_int64_int64.calls (k : Nat) (A0 : Option Addr) (c0 : Nat) (l0 : List Int) (A1 : Option Addr) (c1 : Nat) (l1 : List Int) (r : Bool) (w : World) (hr0 : Kd.C (Kd.int .i64) w A0 l0.length l0) (hc0 : l0.length ≤ c0) (hr1 : Kd.C (Kd.int .i64) w A1 l1.length l1) (hc1 : l1.length ≤ c1) (h : slices_Equal_int64_int64.f k l0 l1 = some r) :
    Calls Try.prog 119 #[.slice A0 l0.length c0, .slice A1 l1.length c1] w fun e w' => e = .returned (.bool r) ∧ Drawn0 w w' := by
  have HR0 := Aside0.mk hr0
  have HC0 := Aside0.mk hc0
  clear hr0 hc0
  have HR1 := Aside0.mk hr1
  have HC1 := Aside0.mk hc1
  clear hr1 hc1
  have H : (if (l0.length : Int) = (l1.length : Int) then (slices_Equal_int64_int64.l0 k l0 l1 (l0.length : Int) 0) else (some false)) = some r := h
  clear h
  by_cases c3 : (l0.length : Int) = (l1.length : Int)
  · rw [if_pos c3] at H
    have c3b0 : ((l0.length : Int) == (l1.length : Int)) = true := beq_iff_eq.mpr c3
    have c3b1 : ((l0.length : Int) != (l1.length : Int)) = false := bne_eq_false_iff_eq.mpr c3
    have c3b2 : (l0.length == l1.length) = true := by first | simpa using c3 | (simp at c3 ⊢; omega)
    clear c3
    have H' := Aside0.mk H
    clear H
    go_enter Try.func119, Try.ntmps119
    go_wp2
    repeat (go_quiet (fail); try go_wp2)
    go_loopg [13] k (fun kq v13 w' => ∃ (x13_1 : Int), v13 = .int .i64 x13_1 ∧ Aside0 (slices_Equal_int64_int64.l0 kq l0 l1 (l0.length : Int) x13_1 = some r) ∧ Aside0 (kq ≤ k) ∧ Drawn0 w w')
    case atStart => exact ⟨(0), (by first | rfl | (simp; done) | (simp [*]; done)), H', ⟨Nat.le_refl _⟩, by repeat (first | exact Drawn0.refl _ | apply Drawn0.step)⟩
    case round =>
      clear H'
      try clear c1
      try clear p2
      try clear c3
      try clear c3b0
      try clear c3b1
      try clear c3b2
      obtain ⟨x13_1, rfl, HA, HK1, ⟨m1, rfl⟩⟩ := hrel
      cases gk with
      | zero => exact absurd HA.out (by simp [slices_Equal_int64_int64.l0])
      | succ k1 =>
        have H := HA.out
        clear HA
        simp only [slices_Equal_int64_int64.l0] at H
        by_cases c4 : x13_1 < (l0.length : Int)
        · rw [if_pos c4] at H
          have c4b0 : decide (x13_1 < (l0.length : Int)) = true := decide_eq_true c4
          clear c4
          by_cases c5 : 0 ≤ x13_1
          · rw [if_pos c5] at H
            have c5b0 : decide (0 ≤ x13_1) = true := decide_eq_true c5
            clear c5
            by_cases c6 : x13_1 < (l0.length : Int)
            · rw [if_pos c6] at H
              have c6b0 : decide (x13_1 < (l0.length : Int)) = true := decide_eq_true c6
              clear c6
              by_cases c7 : x13_1 < (l1.length : Int)
              · rw [if_pos c7] at H
                have c7b0 : decide (x13_1 < (l1.length : Int)) = true := decide_eq_true c7
                clear c7
                by_cases c8 : (rd l0 x13_1) = (rd l1 x13_1)
                · rw [if_pos c8] at H
                  have c8b0 : ((rd l0 x13_1) == (rd l1 x13_1)) = true := beq_iff_eq.mpr c8
                  have c8b1 : ((rd l0 x13_1) != (rd l1 x13_1)) = false := bne_eq_false_iff_eq.mpr c8
                  clear c8
                  have H' := Aside0.mk H
                  clear H
                  have p108 : 0 ≤ (x13_1 : Int) := of_decide_eq_true (by first | (with_reducible assumption) | assumption)
                  have q108 : x13_1 < (l0.length : Int) := of_decide_eq_true (by first | (with_reducible assumption) | assumption)
                  obtain ⟨ad108, e108, hx108_0⟩ := Kd.at_int HR0.out x13_1 p108 q108
                  cases e108
                  replace p108 := eq_true p108
                  replace q108 := eq_true q108
                  have p109 : 0 ≤ (x13_1 : Int) := of_decide_eq_true (by first | (with_reducible assumption) | assumption)
                  have q109 : x13_1 < (l1.length : Int) := of_decide_eq_true (by first | (with_reducible assumption) | assumption)
                  obtain ⟨ad109, e109, hx109_0⟩ := Kd.at_int HR1.out x13_1 p109 q109
                  cases e109
                  replace p109 := eq_true p109
                  replace q109 := eq_true q109
                  go_wp2
                  repeat (go_quiet (fail); try go_wp2)
                  go_roundg k1
                  case measure => have := HK1.out; omega
                  case rel => exact ⟨(wrap64 (x13_1 + 1)), (by first | rfl | (simp; done) | (simp [*]; done)), H', ⟨by have := HK1.out; omega⟩, by repeat (first | exact Drawn0.refl _ | apply Drawn0.step)⟩
                · rw [if_neg c8] at H
                  have c8b0 : ((rd l0 x13_1) == (rd l1 x13_1)) = false := beq_eq_false_iff_ne.mpr c8
                  have c8b1 : ((rd l0 x13_1) != (rd l1 x13_1)) = true := bne_iff_ne.mpr c8
                  obtain rfl := Option.some.inj H
                  have p108 : 0 ≤ (x13_1 : Int) := of_decide_eq_true (by first | (with_reducible assumption) | assumption)
                  have q108 : x13_1 < (l0.length : Int) := of_decide_eq_true (by first | (with_reducible assumption) | assumption)
                  obtain ⟨ad108, e108, hx108_0⟩ := Kd.at_int HR0.out x13_1 p108 q108
                  cases e108
                  replace p108 := eq_true p108
                  replace q108 := eq_true q108
                  have p109 : 0 ≤ (x13_1 : Int) := of_decide_eq_true (by first | (with_reducible assumption) | assumption)
                  have q109 : x13_1 < (l1.length : Int) := of_decide_eq_true (by first | (with_reducible assumption) | assumption)
                  obtain ⟨ad109, e109, hx109_0⟩ := Kd.at_int HR1.out x13_1 p109 q109
                  cases e109
                  replace p109 := eq_true p109
                  replace q109 := eq_true q109
                  go_wp2
                  repeat (go_quiet (fail); try go_wp2)
                  go_ret
                  exact ⟨by first | rfl | (simp; done) | (simp [*]; done), by repeat (first | exact Drawn0.refl _ | apply Drawn0.step)⟩
              · rw [if_neg c7] at H
                exact absurd H (by simp)
            · rw [if_neg c6] at H
              exact absurd H (by simp)
          · rw [if_neg c5] at H
            exact absurd H (by simp)
        · rw [if_neg c4] at H
          have c4b0 : decide (x13_1 < (l0.length : Int)) = false := decide_eq_false c4
          clear c4
          obtain rfl := Option.some.inj H
          go_wp2
          repeat (go_quiet (fail); try go_wp2)
          go_ret
          exact ⟨by first | rfl | (simp; done) | (simp [*]; done), by repeat (first | exact Drawn0.refl _ | apply Drawn0.step)⟩
  · rw [if_neg c3] at H
    have c3b0 : ((l0.length : Int) == (l1.length : Int)) = false := beq_eq_false_iff_ne.mpr c3
    have c3b1 : ((l0.length : Int) != (l1.length : Int)) = true := bne_iff_ne.mpr c3
    have c3b2 : (l0.length == l1.length) = false := by first | simpa using c3 | (simp at c3 ⊢; omega)
    obtain rfl := Option.some.inj H
    go_enter Try.func119, Try.ntmps119
    go_wp2
    repeat (go_quiet (fail); try go_wp2)
    go_ret
    exact ⟨by first | rfl | (simp; done) | (simp [*]; done), by repeat (first | exact Drawn0.refl _ | apply Drawn0.step)⟩

end Go.Proofs.Ytndiplmpolkneaa.L
