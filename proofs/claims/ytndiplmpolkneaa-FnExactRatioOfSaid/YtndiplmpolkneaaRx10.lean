-- Laid by hp.py (this repo's wip/) through the kit's print; contracts of this repo's own among them.
import Derived.Test.YtndiplmpolkneaaRx0
import Derived.Test.YtndiplmpolkneaaRx2
import Derived.Test.YtndiplmpolkneaaRx6
import Derived.Test.YtndiplmpolkneaaRx9
namespace Go.Proofs.Ytndiplmpolkneaa.R
open Go.RowKit Go.Proofs.YtndiplmpolkneaaW.PrintWords Go.Proofs.YtndiplmpolkneaaW.PrintLast Go.Proofs.YtndiplmpolkneaaW.PrintMore
attribute [local go_sem] max2_int min2_int max_two min_two max_three min_three max_four min_four   -- for this text's walks alone
set_option linter.unusedVariables false
set_option linter.unusedSimpArgs false

/-! ### spec_l03Age: function 149 -/
def spec_l03Age.l0 : Nat → List Int → Int → Int → Option (Int)
  | 0, _, _, _ => none
  | k + 1, x0, x1, x5 => if x5 < (x0.length : Int) then (if 0 ≤ x5 then (if (rd x0 x5) = x1 then (some x5) else (spec_l03Age.l0 k x0 x1 (wrap64 (x5 + 1)))) else (none)) else (some (-1))
def spec_l03Age.f (k : Nat) (l0 : List Int) (a1 : Int) : Option (Int) := spec_l03Age.l0 k l0 a1 0
theorem spec_l03Age.mono_l : ∀ k, (∀ y0 y1 y2, LeO (spec_l03Age.l0 k y0 y1 y2) (spec_l03Age.l0 (k + 1) y0 y1 y2))
  | 0 => fun _ _ _ r h => by simp [spec_l03Age.l0] at h
  | k + 1 => by
    have ih0 := spec_l03Age.mono_l k
    · intro y0 y1 y2
      unfold spec_l03Age.l0
      repeat' first
      | (with_reducible exact ih0 _ _ _)
      | (with_reducible exact LeO.refl _)
      | (with_reducible exact LeO.none _)
      | (with_reducible refine LeO.ite ?_ ?_)
      | (with_reducible refine LeO.bind ?_ (fun _ => ?_))
      | exact ih0 _ _ _
      | exact LeO.none _
      | refine LeO.ite ?_ ?_
      | refine LeO.bind ?_ (fun _ => ?_)
theorem spec_l03Age.mono : ∀ a0 a1 k, LeO (spec_l03Age.f k a0 a1) (spec_l03Age.f (k + 1) a0 a1) := by
  intro a0 a1 k
  have ih0 := spec_l03Age.mono_l k
  unfold spec_l03Age.f
  repeat' first
      | (with_reducible exact ih0 _ _ _)
      | (with_reducible exact LeO.refl _)
      | (with_reducible exact LeO.none _)
      | (with_reducible refine LeO.ite ?_ ?_)
      | (with_reducible refine LeO.bind ?_ (fun _ => ?_))
      | exact ih0 _ _ _
      | exact LeO.none _
      | refine LeO.ite ?_ ?_
      | refine LeO.bind ?_ (fun _ => ?_)
set_option maxHeartbeats 8000000 in
set_option maxRecDepth 100000 in
theorem spec_l03Age.calls (k : Nat) (A0 : Option Addr) (c0 : Nat) (l0 : List Int) (a1 : Int) (r : Int) (w : World) (hr0 : Kd.C (Kd.int .i64) w A0 l0.length l0) (hc0 : l0.length ≤ c0) (h : spec_l03Age.f k l0 a1 = some r) :
    Calls Try.prog 149 #[.slice A0 l0.length c0, .int .i64 a1] w fun e w' => e = .returned (.int .i64 r) ∧ Drawn0 w w' := by
  have HR0 := Aside0.mk hr0
  have HC0 := Aside0.mk hc0
  clear hr0 hc0
  have H : (spec_l03Age.l0 k l0 a1 0) = some r := h
  clear h
  have H' := Aside0.mk H
  clear H
  go_enter Try.func149, Try.ntmps149
  go_wp2
  go_loopg [5] k (fun kq v5 w' => ∃ (x5_1 : Int), v5 = .int .i64 x5_1 ∧ Aside0 (spec_l03Age.l0 kq l0 a1 x5_1 = some r) ∧ Aside0 (kq ≤ k) ∧ Drawn0 w w')
  case atStart => exact ⟨(0), (by first | rfl | (simp; done) | (simp [*]; done)), H', ⟨Nat.le_refl _⟩, by repeat (first | exact Drawn0.refl _ | apply Drawn0.step)⟩
  case round =>
    clear H'
    try clear c1
    try clear p2
    obtain ⟨x5_1, rfl, HA, HK1, ⟨m1, rfl⟩⟩ := hrel
    cases gk with
    | zero => exact absurd HA.out (by simp [spec_l03Age.l0])
    | succ k1 =>
      have H := HA.out
      clear HA
      simp only [spec_l03Age.l0] at H
      by_cases c3 : x5_1 < (l0.length : Int)
      · rw [if_pos c3] at H
        have c3b0 : decide (x5_1 < (l0.length : Int)) = true := decide_eq_true c3
        clear c3
        by_cases c4 : 0 ≤ x5_1
        · rw [if_pos c4] at H
          have c4b0 : decide (0 ≤ x5_1) = true := decide_eq_true c4
          clear c4
          by_cases c5 : (rd l0 x5_1) = a1
          · rw [if_pos c5] at H
            have c5b0 : ((rd l0 x5_1) == a1) = true := beq_iff_eq.mpr c5
            have c5b1 : ((rd l0 x5_1) != a1) = false := bne_eq_false_iff_eq.mpr c5
            clear c5
            obtain rfl := Option.some.inj H
            have p351 : 0 ≤ (x5_1 : Int) := of_decide_eq_true (by first | (with_reducible assumption) | assumption)
            have q351 : x5_1 < (l0.length : Int) := of_decide_eq_true (by first | (with_reducible assumption) | assumption)
            obtain ⟨ad351, e351, hx351_0⟩ := Kd.at_int HR0.out x5_1 p351 q351
            cases e351
            replace p351 := eq_true p351
            replace q351 := eq_true q351
            go_wp2
            go_ret
            exact ⟨by first | rfl | (simp; done) | (simp [*]; done), by repeat (first | exact Drawn0.refl _ | apply Drawn0.step)⟩
          · rw [if_neg c5] at H
            have c5b0 : ((rd l0 x5_1) == a1) = false := beq_eq_false_iff_ne.mpr c5
            have c5b1 : ((rd l0 x5_1) != a1) = true := bne_iff_ne.mpr c5
            have H' := Aside0.mk H
            clear H
            have p351 : 0 ≤ (x5_1 : Int) := of_decide_eq_true (by first | (with_reducible assumption) | assumption)
            have q351 : x5_1 < (l0.length : Int) := of_decide_eq_true (by first | (with_reducible assumption) | assumption)
            obtain ⟨ad351, e351, hx351_0⟩ := Kd.at_int HR0.out x5_1 p351 q351
            cases e351
            replace p351 := eq_true p351
            replace q351 := eq_true q351
            go_wp2
            go_roundg k1
            case measure => have := HK1.out; omega
            case rel => exact ⟨(wrap64 (x5_1 + 1)), (by first | rfl | (simp; done) | (simp [*]; done)), H', ⟨by have := HK1.out; omega⟩, by repeat (first | exact Drawn0.refl _ | apply Drawn0.step)⟩
        · rw [if_neg c4] at H
          exact absurd H (by simp)
      · rw [if_neg c3] at H
        have c3b0 : decide (x5_1 < (l0.length : Int)) = false := decide_eq_false c3
        clear c3
        obtain rfl := Option.some.inj H
        go_wp2
        go_ret
        exact ⟨by first | rfl | (simp; done) | (simp [*]; done), by repeat (first | exact Drawn0.refl _ | apply Drawn0.step)⟩

/-- A policy at block g of W. -/
def PolAt (W : World) (g : Nat) (rows : List (List Int)) (ms : List Int) : Prop := ∃ A0 c0 A1 c1, W.heap[g]? = some (.cells #[.slice A0 rows.length c0, .slice A1 ms.length c1] 29 (0, 0)) ∧ Kd.C (Kd.slice 2 (Kd.int .i64)) W A0 rows.length rows ∧ rows.length ≤ c0 ∧ Kd.C (Kd.int .i64) W A1 ms.length ms ∧ ms.length ≤ c1
theorem PolAt.below {W W1 : World} {g : Nat} {rows : List (List Int)} {ms : List Int} (h : PolAt W g rows ms) (hb : Below W.heap.size W W1) : PolAt W1 g rows ms := by
  obtain ⟨A0, c0, A1, c1, h0, h1, h2, h3, h4⟩ := h
  exact ⟨A0, c0, A1, c1, blk_below h0 hb, Kd.C_below h1 hb, h2, Kd.C_below h3 hb, h4⟩

def l03IsF (k : Nat) (rows : List (List Int)) (ms : List Int) : Option Bool := if (spec_l03Order.f k ms ms.length).isSome = true ∧ (rows.all fun x => (spec_l03Order.f k x ms.length).isSome) = true then some (decide (1 ≤ ms.length) && decide (ms.length ≤ 6) && decide (rows.length = ms.length) && (spec_l03Order.f k ms ms.length).getD false && rows.all fun x => (spec_l03Order.f k x ms.length).getD false) else none
theorem l03IsF_mono : ∀ rows ms k, LeO (l03IsF k rows ms) (l03IsF (k + 1) rows ms) := by
  intro rows ms k r h
  unfold l03IsF at h ⊢
  by_cases hc : (spec_l03Order.f k ms ms.length).isSome = true ∧ (rows.all fun x => (spec_l03Order.f k x ms.length).isSome) = true
  · rw [if_pos hc] at h
    obtain ⟨h1, h2⟩ := hc
    have hw : ∀ x, (spec_l03Order.f k x ms.length).isSome = true → spec_l03Order.f (k + 1) x ms.length = spec_l03Order.f k x ms.length := fun x hx => by
      obtain ⟨v, hv⟩ := Option.isSome_iff_exists.1 hx
      rw [hv]
      exact spec_l03Order.mono x _ k v hv
    have hr : ∀ x ∈ rows, spec_l03Order.f (k + 1) x ms.length = spec_l03Order.f k x ms.length := fun x hx => hw x (List.all_eq_true.1 h2 x hx)
    rw [if_pos ⟨by rw [hw ms h1]; exact h1, List.all_eq_true.2 fun x hx => by rw [hr x hx]; exact List.all_eq_true.1 h2 x hx⟩, hw ms h1, ← h]
    congr 2
    rw [Bool.eq_iff_iff, List.all_eq_true, List.all_eq_true]
    constructor
    · intro q x hx
      rw [← hr x hx]
      exact q x hx
    · intro q x hx
      rw [hr x hx]
      exact q x hx
  · rw [if_neg hc] at h
    exact absurd h (by simp)
set_option maxHeartbeats 2000000 in
theorem l03IsCalls (k : Nat) (g : Nat) (rows : List (List Int)) (ms : List Int) (r : Bool) (w : World) (hP : PolAt w g rows ms) (h : l03IsF k rows ms = some r) :
    Calls Try.prog 79 #[.pointer (some ⟨g, 0, none⟩)] w fun e w' => e = .returned (.bool r) ∧ Below w.heap.size w w' := by
  obtain ⟨A0, c0, A1, c1, hb, hR0, hl0, hR1, hl1⟩ := hP
  unfold l03IsF at h
  by_cases hc : (spec_l03Order.f k ms ms.length).isSome = true ∧ (rows.all fun x => (spec_l03Order.f k x ms.length).isSome) = true
  · rw [if_pos hc] at h
    have h' := Option.some.inj h
    clear h
    obtain ⟨hs1, hs2⟩ := hc
    have hbig : ms.length ≤ 9223372036854775807 := hR1.2.1
    have hbig0 : rows.length ≤ 9223372036854775807 := hR0.2.1
    have hc0 : w.cell? ⟨g, 0, none⟩ = some (.slice A0 rows.length c0) := (blk_cell hb 0).trans rfl
    have hc1 : w.cell? ⟨g, 1, none⟩ = some (.slice A1 ms.length c1) := (blk_cell hb 1).trans rfl
    obtain ⟨b, hbb⟩ := Option.isSome_iff_exists.1 hs1
    rw [hbb] at h'
    have ho := spec_l03Order.calls k A1 c1 ms ms.length b w hR1 hl1 hbb
    have HB := Aside0.mk hb
    have HR := Aside0.mk hR0
    have HS := Aside0.mk hs2
    have HQ := Aside0.mk h'
    clear hb hR0 hR1 hl0 hl1 hs1 hs2 hbb h'
    have hord := fun (A : Option Addr) (c : Nat) (x : List Int) (W : World) (hC : Kd.C (Kd.int .i64) W A x.length x) (hl : x.length ≤ c) (v : Bool) (hv : spec_l03Order.f k x ms.length = some v) => spec_l03Order.calls k A c x ms.length v W hC hl hv
    obtain ⟨n, hn⟩ : ∃ n, n = ms.length := ⟨_, rfl⟩
    obtain ⟨m, hm⟩ : ∃ m, m = rows.length := ⟨_, rfl⟩
    rw [← hn] at hc1 ho hbig hord
    rw [← hm] at hc0 hbig0
    have HN := Aside0.mk hn
    have HM := Aside0.mk hm
    clear hn hm
    by_cases h1 : n < 1
    · obtain rfl : n = 0 := by omega
      go_enter Try.func79, Try.ntmps79
      go_wp2
      go_ret
      refine ⟨?_, Below.refl _ _⟩
      rw [← HQ.out, ← HN.out]
      rfl
    · by_cases h6 : 6 < n
      · have f1 : decide ((n : Int) < 1) = false := decide_eq_false (by omega)
        have f1a : ¬ n = 0 := by omega
        have f2 : decide ((6 : Int) < (n : Int)) = true := decide_eq_true (by omega)
        have f2a : decide (6 < n) = true := decide_eq_true h6
        go_enter Try.func79, Try.ntmps79
        go_wp2
        go_ret
        refine ⟨?_, Below.refl _ _⟩
        rw [← HQ.out, ← HN.out, show decide (n ≤ 6) = false from decide_eq_false (by omega)]
        simp
      · have f1 : decide ((n : Int) < 1) = false := decide_eq_false (by omega)
        have f1a : ¬ n = 0 := by omega
        have f2 : decide ((6 : Int) < (n : Int)) = false := decide_eq_false (by omega)
        have f2a : decide (6 < n) = false := decide_eq_false h6
        by_cases hmn : m = n
        · subst hmn
          cases b with
          | false =>
            go_enter Try.func79, Try.ntmps79
            go_wp2_with (go_at_call 113; refine ho.mono ?_; rintro e w1 ⟨rfl, hb1⟩)
            go_ret
            refine ⟨?_, hb1⟩
            rw [← HQ.out]
            simp
          | true =>
            go_enter Try.func79, Try.ntmps79
            go_wp2_with (go_at_call 113; refine ho.mono ?_; rintro e w1 ⟨rfl, hb1⟩; have HB1 := Aside0.mk hb1; clear hb1)
            clear ho hc0 hc1
            go_loopg [4] m (fun gg s4 wr => ∃ kk : Nat, kk ≤ m ∧ m - kk ≤ gg ∧ s4 = .int .i64 kk ∧ Aside0 (Below w.heap.size w wr) ∧ Aside0 (∀ j, j < kk → (spec_l03Order.f k (rows.getD j []) ms.length).getD false = true))
            case atStart => exact ⟨0, Nat.zero_le _, by omega, rfl, HB1, ⟨fun j hj => absurd hj (Nat.not_lt_zero _)⟩⟩
            case round =>
              obtain ⟨kk, hkk, hg, rfl, HBr, HA⟩ := hrel
              have hblk := blk_below HB.out HBr.out
              rw [← HN.out, ← HM.out] at hblk
              have hc0 : wr.cell? ⟨g, 0, none⟩ = some (.slice A0 m c0) := (blk_cell hblk 0).trans rfl
              clear hblk
              by_cases hlt : kk < m
              · have hltz : (kk : Int) < (m : Int) := by omega
                have hR0 := HR.out
                obtain ⟨ad, A2, c2, eA, hx, hl2, hC2⟩ := rowAt hR0 kk (by have := HM.out; omega)
                subst eA
                have hcell : wr.cell? (ad.add kk) = some (.slice A2 (rows.getD kk []).length c2) := (HBr.out.cell (World.block_lt_of_cell? w _ hx)).trans hx
                have hC3 := Kd.C_below hC2 HBr.out
                have hsome : (spec_l03Order.f k (rows.getD kk []) ms.length).isSome = true := List.all_eq_true.1 HS.out _ (by rw [List.getD_eq_getElem?_getD, List.getElem?_eq_getElem (by have := HM.out; omega)]; exact List.getElem_mem _)
                obtain ⟨v, hv⟩ := Option.isSome_iff_exists.1 hsome
                have hcall := hord A2 c2 (rows.getD kk []) wr hC3 hl2 v (by rw [HN.out]; exact hv)
                have HV := Aside0.mk hv
                clear hx hC2 hC3 hsome hv hord hR0
                generalize hy : rows.getD kk [] = y at hcell hcall HV hl2
                have HY := Aside0.mk hy
                clear hy
                cases v with
                | false =>
                  go_wp2_with (go_at_call 113; refine hcall.mono ?_; rintro e w2 ⟨rfl, hb2⟩)
                  go_ret
                  refine ⟨?_, below_then HBr.out HBr.out.size hb2⟩
                  rw [← HQ.out]
                  have : (rows.all fun x => (spec_l03Order.f k x ms.length).getD false) = false := by
                    rw [List.all_eq_false]
                    exact ⟨y, by rw [← HY.out, List.getD_eq_getElem?_getD, List.getElem?_eq_getElem (by have := HM.out; omega)]; exact List.getElem_mem _, by rw [HV.out]; simp⟩
                  rw [this, Bool.and_false]
                  rfl
                | true =>
                  go_wp2_with (go_at_call 113; refine hcall.mono ?_; rintro e w2 ⟨rfl, hb2⟩; have HB2 := Aside0.mk (below_then HBr.out HBr.out.size hb2); clear hb2)
                  go_roundg (m - (kk + 1))
                  case measure => omega
                  case rel =>
                    refine ⟨kk + 1, by omega, by omega, by go_num, HB2, ⟨fun j hj => ?_⟩⟩
                    by_cases e : j = kk
                    · subst e
                      rw [HY.out, HV.out]; rfl
                    · exact HA.out j (by omega)
              · have hltz : ¬ (kk : Int) < (m : Int) := by omega
                obtain rfl : kk = m := by omega
                go_wp2
                go_ret
                refine ⟨?_, HBr.out⟩
                rw [← HQ.out, ← HN.out, ← HM.out, decide_eq_true (show 1 ≤ kk by omega), decide_eq_true (show kk ≤ 6 by omega), decide_eq_true (rfl : kk = kk)]
                have : (rows.all fun x => (spec_l03Order.f k x ms.length).getD false) = true := by
                  rw [List.all_eq_true]
                  intro x hx
                  obtain ⟨j, hj, e⟩ := List.mem_iff_getElem.1 hx
                  have := HA.out j (by have := HM.out; omega)
                  rw [List.getD_eq_getElem?_getD, List.getElem?_eq_getElem hj] at this
                  rw [← e]
                  exact this
                rw [← HN.out] at this
                rw [this]
                rfl
        · have f3 : (m == n) = false := beq_eq_false_iff_ne.mpr hmn
          have f3a : ((m : Int) == (n : Int)) = false := beq_eq_false_iff_ne.mpr (by omega)
          have f3b : ((m : Int) != (n : Int)) = true := bne_iff_ne.mpr (by omega)
          have f3c : (m != n) = true := bne_iff_ne.mpr hmn
          go_enter Try.func79, Try.ntmps79
          go_wp2
          go_ret
          refine ⟨?_, Below.refl _ _⟩
          rw [← HQ.out, ← HN.out, ← HM.out, decide_eq_false hmn]
          simp
  · rw [if_neg hc] at h
    exact absurd h (by simp)

set_option maxHeartbeats 2000000 in
theorem l03EmptyCalls (g : Nat) (rows : List (List Int)) (ms : List Int) (w : World) (hP : PolAt w g rows ms) (hl : ms.length < 1000000) :
    Calls Try.prog 135 #[.pointer (some ⟨g, 0, none⟩)] w fun e w' => ∃ v, e = .returned v ∧ Kd.R (Kd.int .i64) 2 w' w.heap.size (fun _ => True) v (List.replicate ms.length (-1)) ∧ Below w.heap.size w w' := by
  obtain ⟨A0, c0, A1, c1, hb, hR0, hl0, hR1, hl1⟩ := hP
  have HBK := Aside0.mk hb
  have HL := Aside0.mk hl
  clear hb hR0 hl0 hR1 hl1
  have HB : Aside0 (Below w.heap.size w w) := ⟨Below.refl _ _⟩
  obtain ⟨n, hn⟩ : ∃ n, n = ms.length := ⟨_, rfl⟩
  have HN := Aside0.mk hn
  have hnb : n < 1000000 := by rw [hn]; exact hl
  clear hl hn
  go_enter Try.func135, Try.ntmps135
  go_wp2_with ((with_reducible refine gate_dst (N := 5) rfl ?_); refine Kd.R_lit (Kd.int .i64) _ 2 ?hg (N := 5) ?hd (xs := ([] : List Int)) (inner := []) (ok := fun _ => True) (okp := fun _ => True) ?hr ?hp (fun _ hk => hk) trivial (Below.refl _ _) (Nat.le_refl _) (by simp) ?_; (case hd => rfl); (case hg => rfl); (case hr => first | (go_simp; done) | (go_simp; rfl)); (case hp => exact (Reps.none _ _)); intro v9 w9 ho4 hb hg_ hnew_; clear hg_ hnew_; have n0_ := Aside0.mk (Kd.R_lower ho4 (below_size HB.out)); have n1_ := Aside0.mk (below_step HB.out hb); clear HB; have HO := n0_; have HB := n1_; clear n0_ n1_ hb ho4)
  go_loopg [3, 4] n (fun gg s3 s4 wr => ∃ kk : Nat, kk ≤ n ∧ n - kk ≤ gg ∧ s4 = .int .i64 kk ∧ Aside0 (Kd.R (Kd.int .i64) 2 wr w.heap.size (fun _ => True) s3 (List.replicate kk (-1))) ∧ Aside0 (Below w.heap.size w wr))
  case atStart => exact ⟨0, Nat.zero_le _, by omega, rfl, HO, HB⟩
  case round =>
    clear HO HB
    obtain ⟨kk, hkk, hg, rfl, HO, HB⟩ := hrel
    have hc1 : wr.cell? ⟨g, 1, none⟩ = some (.slice A1 n c1) := by rw [HN.out]; exact (blk_cell (blk_below HBK.out HB.out) 1).trans rfl
    by_cases hlt : kk < n
    · have hltz : (kk : Int) < (n : Int) := by omega
      obtain ⟨q, hq⟩ : ∃ q : List Int, q = List.replicate kk (-1) := ⟨_, rfl⟩
      have HO2 := HO.out
      rw [← hq] at HO2
      obtain ⟨A3, k3, rfl, hk3, _⟩ := Kd.R_reads HO2
      have HO3 := Aside0.mk HO2
      have HQ := Aside0.mk hq
      clear HO2 HO hq
      go_wp2_with ((with_reducible refine gate_builtin (b := .append) (xs := #[.tmp 15, .tmp 16]) rfl ?_); at_builtin; refine Kd.R_append (Kd.int .i64) (w0 := w) w.heap.size rfl (.tmp 15) (.tmp 16) 24 2 (.int .i64 0) 8 rfl Try.underlying24 info2 rfl (by decide) (by omega) (.slice A3 q.length k3) q (-1) [.int .i64 (-1)] (fun _ => True) (fun _ => False) rfl rfl ?aP (fun _ hk => hk.elim) ?aF ?aO ?aB ?aS ?aL ?_; (case aP => exact rfl); (case aB => exact HB.out); (case aF => exact (fun _ _ => trivial)); (case aO => exact HO3.out); (case aS => exact HB.out.size); (case aL => have h1 := HL.out; have h2 := HN.out; rw [HQ.out, List.length_replicate]; omega); intro v7 w7 ho hb hg hat; have HO4 := Aside0.mk ho; have HB4 := Aside0.mk hb; clear ho hb hg hat)
      go_roundg (n - (kk + 1))
      case measure => omega
      case rel => exact ⟨kk + 1, by omega, by omega, by go_num, ⟨by have h1 := HO4.out; rw [HQ.out, ← List.replicate_succ'] at h1; exact h1⟩, HB4⟩
    · have hltz : ¬ (kk : Int) < (n : Int) := by omega
      obtain rfl : kk = n := by omega
      go_wp2
      go_ret
      exact ⟨_, rfl, by have h1 := HO.out; rw [HN.out] at h1; exact h1, HB.out⟩

theorem ownAt {w : World} {base n m c : Nat} {e : TypeId} {A : Option Addr} {xs : List Value} (h : w.ownsRow base e 1 (.slice A n c) m xs) (hp : 0 < m) : ∃ gb, A = some ⟨gb, 0, none⟩ := by
  rcases h.2 with ⟨h1, h2⟩ | ⟨gb, cap, cur, he, _⟩
  · injection h1 with _ h3
    omega
  · injection he with h3
    exact ⟨gb, h3⟩
theorem ownGe {W : World} {base gb n c : Nat} {ok : Nat → Prop} {xs : List Int} (h : Kd.R (Kd.int .i64) 2 W base ok (.slice (some ⟨gb, 0, none⟩) n c) xs) : base ≤ gb := own_base (Kd.own_of_R h) gb rfl
theorem ownCell {W : World} {base gb c : Nat} {ok : Nat → Prop} {xs : List Int} (h : Kd.R (Kd.int .i64) 2 W base ok (.slice (some ⟨gb, 0, none⟩) xs.length c) xs) (q : Nat) (hq : q < xs.length) : ∃ u, W.cell? ⟨gb, q, none⟩ = some u ∧ W.frozen? ⟨gb, q, none⟩ = false := by
  rcases (Kd.own_of_R h).2 with ⟨h1, _⟩ | ⟨gb', cap, cur, he, _, hg, h1, _, h3, _⟩
  · cases h1
  · injection he with e1
    injection e1 with e1
    injection e1 with e1
    subst e1
    refine ⟨cur[q]'(by omega), ?_, blk_frozen hg q⟩
    rw [blk_cell hg q]
    exact Array.getElem?_eq_getElem (by omega)
theorem ownPut {W : World} {base gb c : Nat} {xs : List Int} (h : Kd.R (Kd.int .i64) 2 W base (fun _ => True) (.slice (some ⟨gb, 0, none⟩) xs.length c) xs) (q : Nat) (a : Int) (hq : q < xs.length) : Kd.R (Kd.int .i64) 2 (W.setCell ⟨gb, q, none⟩ (.int .i64 a)) base (fun _ => True) (.slice (some ⟨gb, 0, none⟩) xs.length c) (xs.set q a) := by
  have h1 := own_put (k := .i64) (Kd.own_of_R h) (q : Int) a
  rw [Int.toNat_natCast] at h1
  exact Kd.R_of_own (xs := xs.set q a) h1 (fun _ _ => trivial)

def permO (ord old : List Int) : Option (List Int) := if ord.length < 1000000 ∧ (ord.all fun x => decide (0 ≤ x) && decide (x < (old.length : Int))) = true then some (ord.map (rd old)) else none
def l03StepF (k : Nat) (rows : List (List Int)) (ms c : List Int) (a : Int) : Option (List Int × Bool) := if 0 < c.length ∧ c.length < 1000000 then (spec_l03Age.f k c a).bind fun i => (if 0 ≤ i then (if i.toNat < rows.length then (permO (rows.getD i.toNat []) c).map fun o => (o, true) else none) else (permO ms (c.set (c.length - 1) a)).map fun o => (o, false)) else none
theorem l03StepF_mono : ∀ rows ms c a k, LeO (l03StepF k rows ms c a) (l03StepF (k + 1) rows ms c a) := by
  intro rows ms c a k
  unfold l03StepF
  exact LeO.ite (LeO.bind (spec_l03Age.mono _ _ _) (fun _ => LeO.refl _)) (LeO.refl _)
set_option maxHeartbeats 4000000 in
set_option maxRecDepth 100000 in
theorem l03StepCalls (k : Nat) (g : Nat) (rows : List (List Int)) (ms c : List Int) (A : Option Addr) (cc : Nat) (a : Int) (r : List Int) (rb : Bool) (w : World) (hP : PolAt w g rows ms) (hC : Kd.C (Kd.int .i64) w A c.length c) (hcc : c.length ≤ cc) (h : l03StepF k rows ms c a = some (r, rb)) :
    Calls Try.prog 136 #[.pointer (some ⟨g, 0, none⟩), .slice A c.length cc, .int .i64 a] w fun e w' => ∃ v, e = .returned (.tuple #[v, .bool rb]) ∧ Kd.R (Kd.int .i64) 2 w' w.heap.size (fun _ => True) v r ∧ Below w.heap.size w w' := by
  obtain ⟨A0, c0, A1, c1, hb, hR0, hl0, hR1, hl1⟩ := hP
  unfold l03StepF at h
  by_cases hlen : 0 < c.length ∧ c.length < 1000000
  · rw [if_pos hlen] at h
    obtain ⟨i, hi, h⟩ := Option.bind_eq_some_iff.mp h
    have how := spec_l00Own.calls A cc c c w hC hcc (by unfold spec_l00Own.f; rw [Option.bind_some, if_pos (by simp; omega), List.nil_append])
    have hag := fun (A : Option Addr) (cc : Nat) (W : World) (hC : Kd.C (Kd.int .i64) W A c.length c) (hl : c.length ≤ cc) => spec_l03Age.calls k A cc c a i W hC hl hi
    have HBK := Aside0.mk hb
    have HR0 := Aside0.mk hR0
    have HR1 := Aside0.mk hR1
    have HLN := Aside0.mk hlen
    have hbig1 : ms.length ≤ 9223372036854775807 := hR1.2.1
    have hbigc : c.length ≤ 9223372036854775807 := hC.2.1
    obtain ⟨L, hL⟩ : ∃ L, L = c.length := ⟨_, rfl⟩
    rw [← hL] at how hag hbigc ⊢
    have HL := Aside0.mk hL
    clear hb hR0 hR1 hlen hi hC hL hl0 hl1 hcc
    by_cases h0 : 0 ≤ i
    · rw [if_pos h0] at h
      by_cases hir : i.toNat < rows.length
      · rw [if_pos hir] at h
        obtain ⟨o, ho, h⟩ := Option.map_eq_some_iff.mp h
        simp only [Prod.mk.injEq] at h
        obtain ⟨rfl, rfl⟩ := h
        unfold permO at ho
        by_cases hq : (rows.getD i.toNat []).length < 1000000 ∧ ((rows.getD i.toNat []).all fun x => decide (0 ≤ x) && decide (x < (c.length : Int))) = true
        · rw [if_pos hq] at ho
          have ho' := Option.some.inj ho
          obtain ⟨ad0, A2, c2, eA, hx, hl2, hC2⟩ := rowAt HR0.out i.toNat hir
          subst eA
          generalize hord : rows.getD i.toNat [] = ord at hq ho' hx hl2 hC2
          have HQ := Aside0.mk hq
          have HO' := Aside0.mk ho'
          have HX := Aside0.mk hx
          have HC2 := Aside0.mk hC2
          have hbo : ord.length ≤ 9223372036854775807 := hC2.2.1
          have hi1 : decide (0 ≤ i) = true := decide_eq_true h0
          have hi2 : i < (rows.length : Int) := by omega
          clear ho hord hq ho' hx hC2 hir
          obtain ⟨M, hM⟩ : ∃ M, M = ord.length := ⟨_, rfl⟩
          obtain ⟨m0, hm0⟩ : ∃ m0, m0 = rows.length := ⟨_, rfl⟩
          rw [← hM] at hbo hl2
          rw [← hm0] at hi2
          have HM := Aside0.mk hM
          have HM0 := Aside0.mk hm0
          clear hM hm0
          go_enter Try.func136, Try.ntmps136
          go_wp2_with (first
            | (go_at_call 142; refine how.mono ?_; rintro e w1 ⟨v1, rfl, hR_, hb1⟩; obtain ⟨A8, c8, ev, hl8, hC8⟩ := Kd.R_reads hR_; rw [← HL.out] at ev hl8 hC8; subst ev; have HRO := Aside0.mk hR_; have HB0 := Aside0.mk hb1; clear hR_ hb1)
            | (go_at_call 149; refine (hag _ _ _ hC8 hl8).mono ?_; rintro e w2 ⟨rfl, ⟨nd, rfl⟩⟩; obtain ⟨W1, hW1⟩ : ∃ W1, W1 = w1.drewN nd := ⟨_, rfl⟩; have HB1 := Aside0.mk (show Below w.heap.size w W1 from by rw [hW1]; exact pw_below_drewN HB0.out nd); have HC8 := Aside0.mk (show Kd.C (Kd.int .i64) W1 A8 c.length c from by rw [hW1, ← HL.out]; exact Kd.C_below hC8 (pw_below_drewN (Below.refl _ _) nd)); rw [← hW1]; have hc0 : W1.cell? ⟨g, 0, none⟩ = some (.slice (some ad0) m0 c0) := (by rw [HM0.out]; exact (blk_cell (blk_below HBK.out HB1.out) 0).trans rfl); have hc1 : W1.cell? ⟨g, 1, none⟩ = some (.slice A1 ms.length c1) := (blk_cell (blk_below HBK.out HB1.out) 1).trans rfl; have hrow : W1.cell? (ad0.add i.toNat) = some (.slice A2 M c2) := (by rw [HM.out]; exact (HB1.out.cell (World.block_lt_of_cell? w _ HX.out)).trans HX.out); have HL8 := Aside0.mk HL.out; clear hC8 hW1 HRO HB0)
            | ((with_reducible refine gate_dst (N := 37) rfl ?_); refine Kd.R_lit (Kd.int .i64) _ 2 ?hg (N := 37) ?hd (xs := ([] : List Int)) (inner := []) (ok := fun _ => True) (okp := fun _ => True) ?hr ?hp (fun _ hk => hk) trivial (Below.refl _ _) (Nat.le_refl _) (by simp) ?_; (case hd => rfl); (case hg => rfl); (case hr => first | (go_simp; done) | (go_simp; rfl)); (case hp => exact (Reps.none _ _)); intro v9 w9 ho4 hb hg_ hnew_; clear hg_ hnew_; have HO := Aside0.mk (show Kd.R (Kd.int .i64) 2 w9 W1.heap.size (fun _ => True) v9 [] from ho4); have HB := Aside0.mk (show Below W1.heap.size W1 w9 from hb); clear ho4 hb))
          clear hrow hc0 hc1 how hag
          go_loopg [11, 12] M (fun gg s11 s12 wr => ∃ kk : Nat, kk ≤ M ∧ M - kk ≤ gg ∧ s12 = .int .i64 kk ∧ Aside0 (Kd.R (Kd.int .i64) 2 wr W1.heap.size (fun _ => True) s11 ((ord.take kk).map (rd c))) ∧ Aside0 (Below W1.heap.size W1 wr))
          case atStart => exact ⟨0, Nat.zero_le _, by omega, rfl, HO, HB⟩
          case round =>
            clear HO HB
            obtain ⟨kk, hkk, hg, rfl, HO, HB⟩ := hrel
            by_cases hlt : kk < M
            · have hltz : (kk : Int) < (M : Int) := by omega
              have hlt' : kk < ord.length := by have := HM.out; omega
              have hmem : rd ord (kk : Int) ∈ ord := by unfold rd; rw [Int.toNat_natCast, List.getD_eq_getElem?_getD, List.getElem?_eq_getElem hlt']; exact List.getElem_mem _
              have hin := List.all_eq_true.1 HQ.out.2 _ hmem
              simp only [Bool.and_eq_true, decide_eq_true_iff] at hin
              obtain ⟨x0, x1⟩ := hin
              obtain ⟨ad2, e2, hx2⟩ := Kd.at_int HC2.out (kk : Int) (by omega) (by omega)
              obtain ⟨ad8, e8, hx8⟩ := Kd.at_int HC8.out (rd ord (kk : Int)) x0 x1
              subst e2
              cases e8
              have hB0 := below_then HB1.out HB1.out.size HB.out
              have hcell2 : wr.cell? (ad2.add kk) = some (.int .i64 (rd ord (kk : Int))) := (hB0.cell (World.block_lt_of_cell? w _ hx2)).trans hx2
              have hcell8 := (HB.out.cell (World.block_lt_of_cell? W1 _ hx8)).trans hx8
              have x1' : rd ord (kk : Int) < (L : Int) := by have := HL8.out; omega
              have e0 := eq_true x0
              have e1 := eq_true x1'
              have htk : (ord.take kk).map (rd c) ++ [rd c (rd ord (kk : Int))] = (ord.take (kk + 1)).map (rd c) := by
                rw [List.take_succ_eq_append_getElem hlt', List.map_append]
                congr 1
                have : rd ord (kk : Int) = ord[kk] := by unfold rd; rw [Int.toNat_natCast, List.getD_eq_getElem?_getD, List.getElem?_eq_getElem hlt']; rfl
                rw [this]; rfl
              have hlq : ((ord.take kk).map (rd c)).length = kk := by simp; omega
              have HTK := Aside0.mk htk
              have HLQ := Aside0.mk hlq
              clear hmem hx2 hx8 x0 x1 x1' htk hlq hB0
              generalize rd c (rd ord (kk : Int)) = z at hcell8 HTK
              generalize rd ord (kk : Int) = y at hcell2 hcell8 e0 e1
              generalize hql : (ord.take kk).map (rd c) = q at HO HTK HLQ
              clear hql
              obtain ⟨A3, k3, rfl, hk3, _⟩ := Kd.R_reads HO.out
              go_wp2_with ((with_reducible refine gate_builtin (b := .append) (xs := #[.tmp 44, .tmp 52]) rfl ?_); at_builtin; refine Kd.R_append (Kd.int .i64) (w0 := W1) W1.heap.size rfl (.tmp 44) (.tmp 52) 24 2 (.int .i64 0) 8 rfl Try.underlying24 info2 rfl (by decide) (by omega) (.slice A3 q.length k3) q z [.int .i64 z] (fun _ => True) (fun _ => False) rfl rfl ?aP (fun _ hk => hk.elim) ?aF ?aO ?aB ?aS ?aL ?_; (case aP => exact rfl); (case aB => exact HB.out); (case aF => exact (fun _ _ => trivial)); (case aO => exact HO.out); (case aS => exact HB.out.size); (case aL => have h1 := HLQ.out; have h2 := HQ.out.1; have h3 := HM.out; omega); intro v7 w7 ho hb hg hat; rw [HTK.out] at ho; have HO4 := Aside0.mk ho; have HB4 := Aside0.mk hb; clear ho hb hg hat)
              go_roundg (M - (kk + 1))
              case measure => omega
              case rel => exact ⟨kk + 1, by omega, by omega, by go_num, HO4, HB4⟩
            · have hltz : ¬ (kk : Int) < (M : Int) := by omega
              obtain rfl : kk = M := by omega
              have HFIN : Aside0 (Kd.R (Kd.int .i64) 2 wr w.heap.size (fun _ => True) u11 o) := ⟨by
                have h1 := HO.out
                rw [HM.out, List.take_length, HO'.out] at h1
                exact Kd.R_lower h1 HB1.out.size⟩
              have HBF := Aside0.mk (below_then HB1.out HB1.out.size HB.out)
              clear HO HB
              go_wp2
              go_ret2
              exact ⟨_, rfl, HFIN.out, HBF.out⟩
        · rw [if_neg hq] at ho
          exact absurd ho (by simp)
      · rw [if_neg hir] at h
        exact absurd h (by simp)
    · rw [if_neg h0] at h
      obtain ⟨o, ho, h⟩ := Option.map_eq_some_iff.mp h
      simp only [Prod.mk.injEq] at h
      obtain ⟨rfl, rfl⟩ := h
      unfold permO at ho
      by_cases hq : ms.length < 1000000 ∧ (ms.all fun x => decide (0 ≤ x) && decide (x < ((c.set (c.length - 1) a).length : Int))) = true
      · rw [if_pos hq] at ho
        have ho' := Option.some.inj ho
        have HQ := Aside0.mk hq
        have HO' := Aside0.mk ho'
        have HC2 := Aside0.mk HR1.out
        have hi1 : decide (0 ≤ i) = false := decide_eq_false h0
        clear ho hq ho' h0
        obtain ⟨M, hM⟩ : ∃ M, M = ms.length := ⟨_, rfl⟩
        rw [← hM] at hbig1
        obtain ⟨q, hq⟩ : ∃ q, L = q + 1 := ⟨L - 1, by have := HL.out; have := HLN.out; omega⟩
        have HQL := Aside0.mk hq
        have hw1 : IntKind.i64.wrap ((L : Int) - 1) = (q : Int) := by rw [IntKind.wrap_i64]; have := HLN.out; have := HL.out; omega
        have hw2 : wrap64 ((L : Int) - 1) = (q : Int) := by unfold wrap64; have := HLN.out; have := HL.out; omega
        have hq0 : (q : Int) < (L : Int) := by omega
        clear hq
        have HM := Aside0.mk hM
        clear hM
        go_enter Try.func136, Try.ntmps136
        go_wp2_with (first
          | (go_at_call 142; refine how.mono ?_; rintro e w1 ⟨v1, rfl, hR_, hb1⟩; obtain ⟨A8, c8, ev, hl8, hC8⟩ := Kd.R_reads hR_; rw [← HL.out] at ev hl8 hC8; subst ev; have HRO := Aside0.mk hR_; have HB0 := Aside0.mk hb1; have hown := Kd.own_of_R HRO.out; obtain ⟨gb, rfl⟩ : ∃ gb, A8 = some ⟨gb, 0, none⟩ := ownAt hown (by have := HLN.out; omega); clear hown hR_ hb1)
          | (go_at_call 149; refine (hag _ _ _ hC8 hl8).mono ?_; rintro e w2 ⟨rfl, ⟨nd, rfl⟩⟩; obtain ⟨W0, hW0⟩ : ∃ W0, W0 = w1.drewN nd := ⟨_, rfl⟩; have HRW := Aside0.mk (show Kd.R (Kd.int .i64) 2 W0 w.heap.size (fun _ => True) (.slice (some ⟨gb, 0, none⟩) c.length c8) c from by rw [hW0]; have h1 := Kd.R_drewN HRO.out nd; rw [HL.out] at h1; exact h1); have HBW := Aside0.mk (show Below w.heap.size w W0 from by rw [hW0]; exact pw_below_drewN HB0.out nd); rw [← hW0]; have hc1 : W0.cell? ⟨g, 1, none⟩ = some (.slice A1 M c1) := (by rw [HM.out]; exact (blk_cell (blk_below HBK.out HBW.out) 1).trans rfl); obtain ⟨uu, hcq, hfq⟩ := ownCell HRW.out q (by have := HQL.out; have := HL.out; omega); have HL8 : Aside0 (L = (c.set (c.length - 1) a).length) := ⟨by rw [List.length_set]; exact HL.out⟩; clear hC8 hW0 HRO HB0)
          | ((with_reducible refine gate_dst (N := 37) rfl ?_); obtain ⟨W1, hW1⟩ : ∃ W1, W1 = W0.setCell ⟨gb, q, none⟩ (.int .i64 a) := ⟨_, rfl⟩; have hR9 := ownPut HRW.out q a (by have := HQL.out; have := HL.out; omega); rw [← hW1] at hR9; have hqe : q = c.length - 1 := (by have := HQL.out; have := HL.out; omega); rw [hqe] at hR9; have HC8 : Aside0 (Kd.C (Kd.int .i64) W1 (some ⟨gb, 0, none⟩) (c.set (c.length - 1) a).length (c.set (c.length - 1) a)) := ⟨(Kd.R_reads' hR9).2.2⟩; have HB1 := Aside0.mk (show Below w.heap.size w W1 from by rw [hW1]; exact below_set HBW.out (ownGe HRW.out)); rw [← hW1]; refine Kd.R_lit (Kd.int .i64) _ 2 ?hg (N := 37) ?hd (xs := ([] : List Int)) (inner := []) (ok := fun _ => True) (okp := fun _ => True) ?hr ?hp (fun _ hk => hk) trivial (Below.refl _ _) (Nat.le_refl _) (by simp) ?_; (case hd => rfl); (case hg => rfl); (case hr => first | (go_simp; done) | (go_simp; rfl)); (case hp => exact (Reps.none _ _)); intro v9 w9 ho4 hb hg_ hnew_; clear hg_ hnew_; have HO := Aside0.mk (show Kd.R (Kd.int .i64) 2 w9 W1.heap.size (fun _ => True) v9 [] from ho4); have HB := Aside0.mk (show Below W1.heap.size W1 w9 from hb); clear ho4 hb; clear hR9 hW1))
        clear hc1 how hag hcq hfq
        go_loopg [11, 12] M (fun gg s11 s12 wr => ∃ kk : Nat, kk ≤ M ∧ M - kk ≤ gg ∧ s12 = .int .i64 kk ∧ Aside0 (Kd.R (Kd.int .i64) 2 wr W1.heap.size (fun _ => True) s11 ((ms.take kk).map (rd (c.set (c.length - 1) a)))) ∧ Aside0 (Below W1.heap.size W1 wr))
        case atStart => exact ⟨0, Nat.zero_le _, by omega, rfl, HO, HB⟩
        case round =>
          clear HO HB
          obtain ⟨kk, hkk, hg, rfl, HO, HB⟩ := hrel
          by_cases hlt : kk < M
          · have hltz : (kk : Int) < (M : Int) := by omega
            have hlt' : kk < ms.length := by have := HM.out; omega
            have hmem : rd ms (kk : Int) ∈ ms := by unfold rd; rw [Int.toNat_natCast, List.getD_eq_getElem?_getD, List.getElem?_eq_getElem hlt']; exact List.getElem_mem _
            have hin := List.all_eq_true.1 HQ.out.2 _ hmem
            simp only [Bool.and_eq_true, decide_eq_true_iff] at hin
            obtain ⟨x0, x1⟩ := hin
            obtain ⟨ad2, e2, hx2⟩ := Kd.at_int HC2.out (kk : Int) (by omega) (by omega)
            obtain ⟨ad8, e8, hx8⟩ := Kd.at_int HC8.out (rd ms (kk : Int)) x0 x1
            subst e2
            cases e8
            have hB0 := below_then HB1.out HB1.out.size HB.out
            have hcell2 : wr.cell? (ad2.add kk) = some (.int .i64 (rd ms (kk : Int))) := (hB0.cell (World.block_lt_of_cell? w _ hx2)).trans hx2
            have hcell8 := (HB.out.cell (World.block_lt_of_cell? W1 _ hx8)).trans hx8
            rw [add_plain] at hcell8
            have x1' : rd ms (kk : Int) < (L : Int) := by have := HL8.out; omega
            have e0 := eq_true x0
            have e1 := eq_true x1'
            have htk : (ms.take kk).map (rd (c.set (c.length - 1) a)) ++ [rd (c.set (c.length - 1) a) (rd ms (kk : Int))] = (ms.take (kk + 1)).map (rd (c.set (c.length - 1) a)) := by
              rw [List.take_succ_eq_append_getElem hlt', List.map_append]
              congr 1
              have : rd ms (kk : Int) = ms[kk] := by unfold rd; rw [Int.toNat_natCast, List.getD_eq_getElem?_getD, List.getElem?_eq_getElem hlt']; rfl
              rw [this]; rfl
            have hlq : ((ms.take kk).map (rd (c.set (c.length - 1) a))).length = kk := by simp; omega
            have HTK := Aside0.mk htk
            have HLQ := Aside0.mk hlq
            clear hmem hx2 hx8 x0 x1 x1' htk hlq hB0
            generalize rd (c.set (c.length - 1) a) (rd ms (kk : Int)) = z at hcell8 HTK
            generalize rd ms (kk : Int) = y at hcell2 hcell8 e0 e1
            generalize hql : (ms.take kk).map (rd (c.set (c.length - 1) a)) = q at HO HTK HLQ
            clear hql
            obtain ⟨A3, k3, rfl, hk3, _⟩ := Kd.R_reads HO.out
            go_wp2_with ((with_reducible refine gate_builtin (b := .append) (xs := #[.tmp 44, .tmp 52]) rfl ?_); at_builtin; refine Kd.R_append (Kd.int .i64) (w0 := W1) W1.heap.size rfl (.tmp 44) (.tmp 52) 24 2 (.int .i64 0) 8 rfl Try.underlying24 info2 rfl (by decide) (by omega) (.slice A3 q.length k3) q z [.int .i64 z] (fun _ => True) (fun _ => False) rfl rfl ?aP (fun _ hk => hk.elim) ?aF ?aO ?aB ?aS ?aL ?_; (case aP => exact rfl); (case aB => exact HB.out); (case aF => exact (fun _ _ => trivial)); (case aO => exact HO.out); (case aS => exact HB.out.size); (case aL => have h1 := HLQ.out; have h2 := HQ.out.1; have h3 := HM.out; omega); intro v7 w7 ho hb hg hat; rw [HTK.out] at ho; have HO4 := Aside0.mk ho; have HB4 := Aside0.mk hb; clear ho hb hg hat)
            go_roundg (M - (kk + 1))
            case measure => omega
            case rel => exact ⟨kk + 1, by omega, by omega, by go_num, HO4, HB4⟩
          · have hltz : ¬ (kk : Int) < (M : Int) := by omega
            obtain rfl : kk = M := by omega
            have HFIN : Aside0 (Kd.R (Kd.int .i64) 2 wr w.heap.size (fun _ => True) u11 o) := ⟨by
              have h1 := HO.out
              rw [HM.out, List.take_length, HO'.out] at h1
              exact Kd.R_lower h1 HB1.out.size⟩
            have HBF := Aside0.mk (below_then HB1.out HB1.out.size HB.out)
            clear HO HB
            go_wp2
            go_ret2
            exact ⟨_, rfl, HFIN.out, HBF.out⟩
      · rw [if_neg hq] at ho
        exact absurd ho (by simp)
  · rw [if_neg hlen] at h
    exact absurd h (by simp)

def l03RunL (k : Nat) (rows : List (List Int)) (ms us : List Int) : Nat → List Int → List Int → Int → Option (List Int × List Int)
  | 0, _, _, _ => none
  | q + 1, hits, now, i => if i < (us.length : Int) then (if 0 ≤ i then (l03StepF k rows ms now (rd us i)).bind fun s => l03RunL k rows ms us q (hits ++ [if s.2 = true then 1 else 0]) s.1 (wrap64 (i + 1)) else none) else some (hits, now)
def l03RunF (k : Nat) (rows : List (List Int)) (ms us : List Int) : Option (List Int × List Int) := if ms.length < 1000000 ∧ us.length < 1000000 then l03RunL k rows ms us k [] (List.replicate ms.length (-1)) 0 else none
theorem l03RunL_mono (rows : List (List Int)) (ms us : List Int) (k : Nat) : ∀ q q' hits now i, q ≤ q' → LeO (l03RunL k rows ms us q hits now i) (l03RunL (k + 1) rows ms us q' hits now i)
  | 0, _, _, _, _, _ => fun r h => by simp [l03RunL] at h
  | q + 1, q', hits, now, i, hq => by
    obtain ⟨q', rfl⟩ : ∃ p, q' = p + 1 := ⟨q' - 1, by omega⟩
    rw [l03RunL, l03RunL]
    exact LeO.ite (LeO.ite (LeO.bind (l03StepF_mono _ _ _ _ _) (fun s => l03RunL_mono rows ms us k q q' _ _ _ (by omega))) (LeO.refl _)) (LeO.refl _)
theorem l03RunF_mono : ∀ rows ms us k, LeO (l03RunF k rows ms us) (l03RunF (k + 1) rows ms us) := by
  intro rows ms us k
  unfold l03RunF
  exact LeO.ite (l03RunL_mono rows ms us k k (k + 1) _ _ _ (Nat.le_succ k)) (LeO.refl _)
theorem keepOther {W w1 : World} {base : Nat} {v v1 u : Value} {ys : List Int} (h : Kd.R (Kd.int .i64) 2 W base (fun k => some k ≠ v.ownBlock) u ys) (hg : W.grownBy w1 v.ownBlock) (hat : v1.ownBlock = v.ownBlock ∨ ∃ b, v1.ownBlock = some b ∧ W.heap.size ≤ b) : Kd.R (Kd.int .i64) 2 w1 base (fun k => some k ≠ v1.ownBlock) u ys := by
  have h1 := Kd.R_bound h
  have h2 := Kd.R_grown h1 hg (fun k hk => hk.1)
  refine Kd.R_mono h2 (fun k hk => ?_)
  rcases hat with e | ⟨b, e, hb⟩
  · rw [e]; exact hk.1
  · rw [e]
    intro e2
    injection e2 with e2
    have := hk.2.2.1
    omega
set_option maxHeartbeats 4000000 in
set_option maxRecDepth 100000 in
theorem l03RunCalls (k : Nat) (g : Nat) (rows : List (List Int)) (ms us : List Int) (A : Option Addr) (cc : Nat) (r1 r2 : List Int) (w : World) (hP : PolAt w g rows ms) (hC : Kd.C (Kd.int .i64) w A us.length us) (hcc : us.length ≤ cc) (h : l03RunF k rows ms us = some (r1, r2)) :
    Calls Try.prog 115 #[.pointer (some ⟨g, 0, none⟩), .slice A us.length cc] w fun e w' => ∃ v1 v2, e = .returned (.tuple #[v1, v2]) ∧ Kd.R (Kd.int .i64) 2 w' w.heap.size (fun _ => True) v1 r1 ∧ Below w.heap.size w w' := by
  unfold l03RunF at h
  by_cases hlim : ms.length < 1000000 ∧ us.length < 1000000
  · rw [if_pos hlim] at h
    have HM := Aside0.mk h
    have HLM := Aside0.mk hlim
    have hbig : us.length ≤ 9223372036854775807 := hC.2.1
    have hem := fun (W : World) (hb : Below w.heap.size w W) => l03EmptyCalls g rows ms W (hP.below hb) hlim.1
    have HP := Aside0.mk hP
    have HC := Aside0.mk hC
    clear h hlim hC hP
    have HB : Aside0 (Below w.heap.size w w) := ⟨Below.refl _ _⟩
    go_enter Try.func115, Try.ntmps115
    go_wp2_with (first
      | ((with_reducible refine gate_dst (N := 12) rfl ?_); refine Kd.R_lit (Kd.int .i64) _ 2 ?hg (N := 12) ?hd (xs := ([] : List Int)) (inner := []) (ok := fun _ => True) (okp := fun _ => True) ?hr ?hp (fun _ hk => hk) trivial (Below.refl _ _) (Nat.le_refl _) (by simp) ?_; (case hd => rfl); (case hg => rfl); (case hr => first | (go_simp; done) | (go_simp; rfl)); (case hp => exact (Reps.none _ _)); intro v9 w9 ho4 hb hg_ hnew_; clear hg_ hnew_; have n0_ := Aside0.mk (Kd.R_lower ho4 (below_size HB.out)); have n1_ := Aside0.mk (below_step HB.out hb); clear HB; have HO := n0_; have HB := n1_; clear n0_ n1_ hb ho4)
      | (go_at_call 135; refine (hem _ HB.out).mono ?_; rintro e w2 ⟨vn, rfl, hRn, hbn⟩; have HN : Aside0 (Kd.R (Kd.int .i64) 2 w2 w.heap.size (fun k_ => some k_ ≠ Value.ownBlock v9) vn (List.replicate ms.length (-1))) := ⟨Kd.R_mono (Kd.R_lower (Kd.R_new hRn (Kd.own_of_R HO.out)) HB.out.size) (fun k_ hk_ => hk_.2)⟩; have n0_ := Aside0.mk (Kd.R_below HO.out hbn); have n1_ := Aside0.mk (below_then HB.out HB.out.size hbn); clear HO HB; have HO := n0_; have HB := n1_; clear n0_ n1_ hRn hbn))
    clear hem
    go_loopg [6, 7, 8] k (fun q v6 v7 v8 wr => ∃ (hits now : List Int) (i : Int), v8 = .int .i64 i ∧ Aside0 (l03RunL k rows ms us q hits now i = some (r1, r2)) ∧ Aside0 (q ≤ k) ∧ Aside0 (Kd.R (Kd.int .i64) 2 wr w.heap.size (fun _ => True) v6 hits) ∧ Aside0 (Kd.R (Kd.int .i64) 2 wr w.heap.size (fun k_ => some k_ ≠ v6.ownBlock) v7 now) ∧ Aside0 (Below w.heap.size w wr) ∧ Aside0 ((hits.length : Int) = i ∧ i ≤ (us.length : Int)))
    case atStart => exact ⟨[], _, 0, rfl, HM, ⟨Nat.le_refl _⟩, HO, HN, HB, ⟨rfl, by omega⟩⟩
    case round =>
      clear HM HO HB HN
      obtain ⟨hits, now, i, rfl, HA, HK, HO, HN, HB, HI⟩ := hrel
      cases gk with
      | zero => exact absurd HA.out (by simp [l03RunL])
      | succ q1 =>
        have H := HA.out
        clear HA
        rw [l03RunL] at H
        have HI1 := HI.out
        have HLH : Aside0 (hits.length < 1000000) := ⟨by have := HLM.out.2; omega⟩
        by_cases h1 : i < (us.length : Int)
        · rw [if_pos h1] at H
          by_cases h2 : 0 ≤ i
          · rw [if_pos h2] at H
            have h1b : decide (i < (us.length : Int)) = true := decide_eq_true h1
            obtain ⟨⟨nx, rb⟩, hs, H⟩ := Option.bind_eq_some_iff.mp H
            have H' := Aside0.mk H
            have HI0 : Aside0 (0 ≤ i ∧ i < (us.length : Int) ∧ (hits.length : Int) = i ∧ us.length < 1000000) := ⟨h2, h1, HI1.1, HLM.out.2⟩
            obtain ⟨ad, eA, hx⟩ := Kd.at_int HC.out i h2 h1
            cases eA
            have hcell : wr.cell? (ad.add i.toNat) = some (.int .i64 (rd us i)) := (HB.out.cell (World.block_lt_of_cell? w _ hx)).trans hx
            obtain ⟨A7, c7, rfl, hl7, hC7⟩ := Kd.R_reads HN.out
            obtain ⟨A6, c6, rfl, hl6, hC6⟩ := Kd.R_reads HO.out
            have hst := l03StepCalls k g rows ms now A7 c7 (rd us i) nx rb wr (HP.out.below HB.out) hC7 hl7 hs
            have e1 := eq_true h1
            have e2 := eq_true h2
            clear hx H hs h1 h2 hl6 hC6 hC7 hl7 HI1 HI
            generalize rd us i = a at hcell hst
            cases rb with
            | true =>
                go_wp2_with (first
                  | (go_at_call 136; refine hst.mono ?_; rintro e w2 ⟨vn, rfl, hRn, hbn⟩; have HBS := Aside0.mk (below_then HB.out HB.out.size hbn); have HHS := Aside0.mk (Kd.R_below HO.out hbn); have HNX : Aside0 (Kd.R (Kd.int .i64) 2 w2 w.heap.size (fun k_ => some k_ ≠ (Value.slice A6 hits.length c6).ownBlock) vn nx) := ⟨Kd.R_mono (Kd.R_lower (Kd.R_new hRn (Kd.own_of_R HO.out)) HB.out.size) (fun k_ hk_ => hk_.2)⟩; clear hRn hbn)
                  | ((with_reducible refine gate_builtin (b := .append) (xs := #[.tmp 32, .tmp 34]) rfl ?_); at_builtin; refine Kd.R_append (Kd.int .i64) (w0 := w) w.heap.size rfl (.tmp 32) (.tmp 34) 24 2 (.int .i64 0) 8 rfl Try.underlying24 info2 rfl (by decide) (by omega) (.slice A6 hits.length c6) hits 1 [.int .i64 1] (fun _ => True) (fun _ => False) rfl rfl ?aP (fun _ hk => hk.elim) ?aF ?aO ?aB ?aS ?aL ?_; (case aP => exact rfl); (case aB => exact HBS.out); (case aF => exact (fun _ _ => trivial)); (case aO => exact HHS.out); (case aS => exact HBS.out.size); (case aL => have h1 := HLH.out; omega); intro v7 w7 ho hb hg hat; have HO4 := Aside0.mk ho; have HB4 := Aside0.mk hb; have HN4 := Aside0.mk (keepOther HNX.out hg hat); clear ho hb hg hat))
                go_roundg q1
                case measure => have := HK.out; omega
                case rel => exact ⟨_, _, _, rfl, H', ⟨by have := HK.out; omega⟩, HO4, HN4, HB4, ⟨by have := HLH.out; have := HI0.out; rw [show wrap64 (i + 1) = i + 1 from by unfold wrap64; omega]; exact ⟨by simp; omega, by omega⟩⟩⟩
            | false =>
                go_wp2_with (first
                  | (go_at_call 136; refine hst.mono ?_; rintro e w2 ⟨vn, rfl, hRn, hbn⟩; have HBS := Aside0.mk (below_then HB.out HB.out.size hbn); have HHS := Aside0.mk (Kd.R_below HO.out hbn); have HNX : Aside0 (Kd.R (Kd.int .i64) 2 w2 w.heap.size (fun k_ => some k_ ≠ (Value.slice A6 hits.length c6).ownBlock) vn nx) := ⟨Kd.R_mono (Kd.R_lower (Kd.R_new hRn (Kd.own_of_R HO.out)) HB.out.size) (fun k_ hk_ => hk_.2)⟩; clear hRn hbn)
                  | ((with_reducible refine gate_builtin (b := .append) (xs := #[.tmp 32, .tmp 34]) rfl ?_); at_builtin; refine Kd.R_append (Kd.int .i64) (w0 := w) w.heap.size rfl (.tmp 32) (.tmp 34) 24 2 (.int .i64 0) 8 rfl Try.underlying24 info2 rfl (by decide) (by omega) (.slice A6 hits.length c6) hits 0 [.int .i64 0] (fun _ => True) (fun _ => False) rfl rfl ?aP (fun _ hk => hk.elim) ?aF ?aO ?aB ?aS ?aL ?_; (case aP => exact rfl); (case aB => exact HBS.out); (case aF => exact (fun _ _ => trivial)); (case aO => exact HHS.out); (case aS => exact HBS.out.size); (case aL => have h1 := HLH.out; omega); intro v7 w7 ho hb hg hat; have HO4 := Aside0.mk ho; have HB4 := Aside0.mk hb; have HN4 := Aside0.mk (keepOther HNX.out hg hat); clear ho hb hg hat))
                go_roundg q1
                case measure => have := HK.out; omega
                case rel => exact ⟨_, _, _, rfl, H', ⟨by have := HK.out; omega⟩, HO4, HN4, HB4, ⟨by have := HLH.out; have := HI0.out; rw [show wrap64 (i + 1) = i + 1 from by unfold wrap64; omega]; exact ⟨by simp; omega, by omega⟩⟩⟩
          · rw [if_neg h2] at H
            exact absurd H (by simp)
        · rw [if_neg h1] at H
          have h0 := Option.some.inj H
          simp only [Prod.mk.injEq] at h0
          obtain ⟨rfl, rfl⟩ := h0
          have h1b : decide (i < (us.length : Int)) = false := decide_eq_false h1
          clear H h1 HI1 HI
          go_wp2
          go_ret2
          exact ⟨_, _, rfl, HO.out, HB.out⟩
  · rw [if_neg hlim] at h
    exact absurd h (by simp)

def l03MisL (hits : List Int) : Nat → Int → Int → Option Int
  | 0, _, _ => none
  | q + 1, n, i => if i < (hits.length : Int) then (if 0 ≤ i then l03MisL hits q (wrap64 (n - rd hits i)) (wrap64 (i + 1)) else none) else some n
def l03MisF (k : Nat) (rows : List (List Int)) (ms us : List Int) : Option Int := (l03RunF k rows ms us).bind fun r => l03MisL r.1 k (r.1.length : Int) 0
theorem l03MisL_mono (hits : List Int) : ∀ q n i, LeO (l03MisL hits q n i) (l03MisL hits (q + 1) n i)
  | 0, _, _ => fun r h => by simp [l03MisL] at h
  | q + 1, n, i => by
    rw [l03MisL, l03MisL]
    exact LeO.ite (LeO.ite (l03MisL_mono hits q _ _) (LeO.refl _)) (LeO.refl _)
theorem l03MisF_mono : ∀ rows ms us k, LeO (l03MisF k rows ms us) (l03MisF (k + 1) rows ms us) := by
  intro rows ms us k
  unfold l03MisF
  exact LeO.bind (l03RunF_mono _ _ _ _) (fun r => l03MisL_mono _ _ _ _)
set_option maxHeartbeats 2000000 in
theorem l03MisCalls (k : Nat) (g : Nat) (rows : List (List Int)) (ms us : List Int) (A : Option Addr) (cc : Nat) (r : Int) (w : World) (hP : PolAt w g rows ms) (hC : Kd.C (Kd.int .i64) w A us.length us) (hcc : us.length ≤ cc) (h : l03MisF k rows ms us = some r) :
    Calls Try.prog 81 #[.pointer (some ⟨g, 0, none⟩), .slice A us.length cc] w fun e w' => e = .returned (.int .i64 r) ∧ Below w.heap.size w w' := by
  unfold l03MisF at h
  obtain ⟨⟨hits, now⟩, hr, h⟩ := Option.bind_eq_some_iff.mp h
  have hrun := l03RunCalls k g rows ms us A cc hits now w hP hC hcc hr
  have HM := Aside0.mk h
  clear h hr hP hC hcc
  go_enter Try.func81, Try.ntmps81
  go_wp2_with (go_at_call 115; refine hrun.mono ?_; rintro e w1 ⟨v1, v2, rfl, hR1, hb1⟩; obtain ⟨A5, c5, rfl, hl5, hC5⟩ := Kd.R_reads hR1; have HC5 := Aside0.mk hC5; have HB := Aside0.mk hb1; clear hR1 hb1 hC5)
  have hbig : hits.length ≤ 9223372036854775807 := HC5.out.2.1
  clear hrun
  go_loopg [7, 8] k (fun q v7 v8 wr => ∃ (n i : Int), v7 = .int .i64 n ∧ v8 = .int .i64 i ∧ Aside0 (l03MisL hits q n i = some r) ∧ Aside0 (q ≤ k) ∧ wr = w1)
  case atStart => exact ⟨_, 0, rfl, rfl, HM, ⟨Nat.le_refl _⟩, rfl⟩
  case round =>
    clear HM
    obtain ⟨n, i, rfl, rfl, HA, HK, rfl⟩ := hrel
    cases gk with
    | zero => exact absurd HA.out (by simp [l03MisL])
    | succ q1 =>
      have H := HA.out
      clear HA
      rw [l03MisL] at H
      by_cases h1 : i < (hits.length : Int)
      · rw [if_pos h1] at H
        by_cases h2 : 0 ≤ i
        · rw [if_pos h2] at H
          have H' := Aside0.mk H
          have h1b : decide (i < (hits.length : Int)) = true := decide_eq_true h1
          obtain ⟨ad, eA, hx⟩ := Kd.at_int HC5.out i h2 h1
          cases eA
          have e1 := eq_true h1
          have e2 := eq_true h2
          clear H h1 h2
          generalize rd hits i = a at hx H'
          go_wp2
          go_roundg q1
          case measure => have := HK.out; omega
          case rel => exact ⟨_, _, rfl, rfl, H', ⟨by have := HK.out; omega⟩, rfl⟩
        · rw [if_neg h2] at H
          exact absurd H (by simp)
      · rw [if_neg h1] at H
        obtain rfl := Option.some.inj H
        have h1b : decide (i < (hits.length : Int)) = false := decide_eq_false h1
        clear H h1
        go_wp2
        go_ret
        exact ⟨rfl, HB.out⟩

/-! ### spec_RatioOf: function 36 -/
def spec_RatioOf.f (k : Nat) (l0_0 : List (List Int)) (l0_1 : List Int) (l1 : List Int) : Option (Int × Int × Bool) := (l03IsF k l0_0 l0_1).bind fun v => if v = true then ((spec_l02Uses.f k l1).bind fun u => if u = true then (if l1.length = 0 then some (0, 0, false) else (l03MisF k l0_0 l0_1 l1).bind fun a => (spec_l05Misses.f k l1 (l0_1.length : Int)).bind fun b => (spec_l01Divisor.f k a b).bind fun g => if g = 0 then none else some (wrap64 (Int.tdiv a g), wrap64 (Int.tdiv b g), true)) else some (0, 0, false)) else some (0, 0, false)
theorem spec_RatioOf.mono : ∀ a0 a1 a2 k, LeO (spec_RatioOf.f k a0 a1 a2) (spec_RatioOf.f (k + 1) a0 a1 a2) := by
  intro a0 a1 a2 k
  unfold spec_RatioOf.f
  refine LeO.bind (l03IsF_mono _ _ _) (fun v => LeO.ite (LeO.bind (spec_l02Uses.mono _ _) (fun u => LeO.ite (LeO.ite (LeO.refl _) ?_) (LeO.refl _))) (LeO.refl _))
  exact LeO.bind (l03MisF_mono _ _ _ _) (fun a => LeO.bind (spec_l05Misses.mono _ _ _) (fun b => LeO.bind (spec_l01Divisor.mono _ _ _) (fun g => LeO.refl _)))
set_option maxHeartbeats 4000000 in
theorem spec_RatioOf.calls (k : Nat) (A0_0 : Option Addr) (c0_0 : Nat) (l0_0 : List (List Int)) (A0_1 : Option Addr) (c0_1 : Nat) (l0_1 : List Int) (A1 : Option Addr) (c1 : Nat) (l1 : List Int) (r1 : Int) (r2 : Int) (r3 : Bool) (w : World) (hr0_0 : Kd.C (Kd.slice 2 (Kd.int .i64)) w A0_0 l0_0.length l0_0) (hc0_0 : l0_0.length ≤ c0_0) (hr0_1 : Kd.C (Kd.int .i64) w A0_1 l0_1.length l0_1) (hc0_1 : l0_1.length ≤ c0_1) (hr1 : Kd.C (Kd.int .i64) w A1 l1.length l1) (hc1 : l1.length ≤ c1) (h : spec_RatioOf.f k l0_0 l0_1 l1 = some (r1, r2, r3)) :
    Calls Try.prog 36 #[.agg #[.slice A0_0 l0_0.length c0_0, .slice A0_1 l0_1.length c0_1], .slice A1 l1.length c1] w fun e w' => e = .returned (.tuple #[.int .i64 r1, .int .i64 r2, .bool r3]) ∧ Below w.heap.size w w' := by
  unfold spec_RatioOf.f at h
  obtain ⟨v, hv, h⟩ := Option.bind_eq_some_iff.mp h
  have hu29 := Try.underlying29
  obtain ⟨W0, hW0⟩ : ∃ W0, W0 = w.alloc (.cells #[.slice A0_0 l0_0.length c0_0, .slice A0_1 l0_1.length c0_1] 29) := ⟨_, rfl⟩
  have hb0 : W0.heap[w.heap.size]? = some (.cells #[.slice A0_0 l0_0.length c0_0, .slice A0_1 l0_1.length c0_1] 29 (0, 0)) := by rw [hW0]; exact blk_new w _
  have HW : Below w.heap.size w W0 := by rw [hW0]; exact (Below.refl _ _).alloc (Nat.le_refl _) _
  have hPol : PolAt W0 w.heap.size l0_0 l0_1 := ⟨_, _, _, _, hb0, Kd.C_below hr0_0 HW, hc0_0, Kd.C_below hr0_1 HW, hc0_1⟩
  have hIs := l03IsCalls k w.heap.size l0_0 l0_1 v W0 hPol hv
  rw [hW0] at hIs
  have hbig : l1.length ≤ 9223372036854775807 := hr1.2.1
  have hbig1 : l0_1.length ≤ 9223372036854775807 := hr0_1.2.1
  have HWA := Aside0.mk HW
  have HB0 := Aside0.mk hb0
  have HPOL := Aside0.mk hPol
  have HR1 := Aside0.mk hr1
  have HC1 := Aside0.mk hc1
  clear hr0_0 hc0_0 hr0_1 hc0_1 hv HW hb0 hPol hr1 hc1
  cases v with
  | false =>
    rw [if_neg (by decide)] at h
    have h' := Option.some.inj h
    simp only [Prod.mk.injEq] at h'
    obtain ⟨rfl, rfl, rfl⟩ := h'
    clear h
    go_enter Try.func36, Try.ntmps36
    go_wp2_with (go_at_call 79; refine hIs.mono ?_; rintro e w1 ⟨rfl, hb1⟩; rw [← hW0] at hb1; have HB1 := Aside0.mk hb1; clear hb1)
    go_ret3
    exact ⟨rfl, below_then HWA.out HWA.out.size HB1.out⟩
  | true =>
    rw [if_pos rfl] at h
    obtain ⟨u, hu, h⟩ := Option.bind_eq_some_iff.mp h
    have hUs := fun (W : World) (hb : Below W0.heap.size W0 W) => spec_l02Uses.calls k A1 c1 l1 u W (Kd.C_below (Kd.C_below HR1.out HWA.out) hb) HC1.out hu
    clear hu
    cases u with
    | false =>
      rw [if_neg (by decide)] at h
      have h' := Option.some.inj h
      simp only [Prod.mk.injEq] at h'
      obtain ⟨rfl, rfl, rfl⟩ := h'
      clear h
      go_enter Try.func36, Try.ntmps36
      go_wp2_with (first
        | (go_at_call 79; refine hIs.mono ?_; rintro e w1 ⟨rfl, hb1⟩; rw [← hW0] at hb1; have HB1 := Aside0.mk hb1; clear hb1)
        | (go_at_call 80; refine (hUs _ HB1.out).mono ?_; rintro e w2 ⟨rfl, ⟨nd, rfl⟩⟩))
      go_ret3
      exact ⟨rfl, below_then HWA.out HWA.out.size (pw_below_drewN HB1.out _)⟩
    | true =>
      rw [if_pos rfl] at h
      by_cases hz : l1.length = 0
      · rw [if_pos hz] at h
        have h' := Option.some.inj h
        simp only [Prod.mk.injEq] at h'
        obtain ⟨rfl, rfl, rfl⟩ := h'
        clear h
        obtain rfl := List.eq_nil_of_length_eq_zero hz
        go_enter Try.func36, Try.ntmps36
        go_wp2_with (first
          | (go_at_call 79; refine hIs.mono ?_; rintro e w1 ⟨rfl, hb1⟩; rw [← hW0] at hb1; have HB1 := Aside0.mk hb1; clear hb1)
          | (go_at_call 80; refine (hUs _ HB1.out).mono ?_; rintro e w2 ⟨rfl, ⟨nd, rfl⟩⟩))
        go_ret3
        exact ⟨rfl, below_then HWA.out HWA.out.size (pw_below_drewN HB1.out _)⟩
      · rw [if_neg hz] at h
        obtain ⟨a, ha, h⟩ := Option.bind_eq_some_iff.mp h
        obtain ⟨b, hb, h⟩ := Option.bind_eq_some_iff.mp h
        obtain ⟨g, hg, h⟩ := Option.bind_eq_some_iff.mp h
        by_cases hg0 : g = 0
        · rw [if_pos hg0] at h
          exact absurd h (by simp)
        · rw [if_neg hg0] at h
          have h' := Option.some.inj h
          simp only [Prod.mk.injEq] at h'
          obtain ⟨rfl, rfl, rfl⟩ := h'
          have hMi := fun (W : World) (hb : Below W0.heap.size W0 W) => l03MisCalls k w.heap.size l0_0 l0_1 l1 A1 c1 a W (HPOL.out.below hb) (Kd.C_below (Kd.C_below HR1.out HWA.out) hb) HC1.out ha
          have hBe := fun (W : World) (hb' : Below W0.heap.size W0 W) => spec_l05Misses.calls k A1 c1 l1 (l0_1.length : Int) b W (Kd.C_below (Kd.C_below HR1.out HWA.out) hb') HC1.out hb
          have hDi := fun (W : World) => spec_l01Divisor.calls k a b g W hg
          have z1 : ((l1.length : Int) == 0) = false := beq_eq_false_iff_ne.mpr (by omega)
          have z2 : ¬ (l1 = []) := fun h_ => hz (by rw [h_]; rfl)
          have z3 : (g == 0) = false := beq_eq_false_iff_ne.mpr hg0
          clear h ha hb hg
          go_enter Try.func36, Try.ntmps36
          go_wp2_with (first
            | (go_at_call 79; refine hIs.mono ?_; rintro e w1 ⟨rfl, hb1⟩; rw [← hW0] at hb1; have HB1 := Aside0.mk hb1; clear hb1)
            | (go_at_call 80; refine (hUs _ HB1.out).mono ?_; rintro e w2 ⟨rfl, ⟨nd, rfl⟩⟩; have HB2 := Aside0.mk (pw_below_drewN HB1.out nd))
            | (go_at_call 81; refine (hMi _ HB2.out).mono ?_; rintro e w3 ⟨rfl, hb3⟩; have HB3 := Aside0.mk (below_then HB2.out HB2.out.size hb3); clear hb3; have hp1 : w3.cell? ⟨w.heap.size, 1, none⟩ = some (.slice A0_1 l0_1.length c0_1) := (blk_cell (blk_below HB0.out HB3.out) 1).trans rfl)
            | (go_at_call 82; refine (hBe _ HB3.out).mono ?_; rintro e w4 ⟨rfl, hb4⟩; have HB4 := Aside0.mk (below_then HB3.out HB3.out.size hb4); clear hb4)
            | (go_at_call 83; refine (hDi _).mono ?_; rintro e w5 ⟨rfl, ⟨nd5, rfl⟩⟩))
          go_quiet (fail)
          go_wp2
          go_ret3
          exact ⟨rfl, below_then HWA.out HWA.out.size (pw_below_drewN (pw_below_drewN HB4.out _) _)⟩

end Go.Proofs.Ytndiplmpolkneaa.R
