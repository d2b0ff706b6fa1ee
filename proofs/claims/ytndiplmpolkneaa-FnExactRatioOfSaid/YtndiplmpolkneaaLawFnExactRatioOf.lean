/- For all policies (any lists of numbers) and all uses the law FnExactRatioOf answers true, and its arguments read as they did: no condition beyond those of the row's kind. -/
-- Laid by hp.py (this repo's wip/) through the kit's print; contracts of this repo's own among them.
import Derived.Test.YtndiplmpolkneaaRows
import Derived.Test.YtndiplmpolkneaaRx12
import Derived.Test.YtndiplmpolkneaaPureFnExactRatioOf
import Derived.WalkKit
import Derived.Deep.Matrix
import Derived.Lib.SmallJoins
import Derived.ProofKit
import Derived.OpenShut
import Derived.ShutString
import Derived.ChangeOld
import Derived.Below
import Derived.SizedLaws
import Derived.Test.YtndiplmpolkneaaWSized
namespace Go.Proofs.Ytndiplmpolkneaa.fnExactRatioOf
open Go.ChangeShapes Go.WideShapes Go.ChangeAt Go.RowKit
open Go.ChangeMaps (open_string shut_string)
set_option linter.unusedVariables false
theorem own : ownKnob Try.prog.godebug = none := by kernel_rfl
theorem laidOut : laidOutB Try.prog = true := by kernel_rfl
open Go.Proofs.YtndiplmpolkneaaW.PrintWords Go.Proofs.YtndiplmpolkneaaW.PrintLast
/-- Whole numbers that came in, read as a row. -/
theorem rowInts {W : World} {A : Option Addr} {n cap : Nat} (zs : List Int) (hn : n ≤ cap) (hm : cap ≤ maxLen) (hl : zs.length = cap) (hA : A = none → cap = 0) (hc : ∀ a', A = some a' → ∀ c, c < cap → W.cell? (a'.add c) = some (.int .i64 (zs.getD c 0))) : (zs.take n).length = n ∧ (Kd.int .i64).C W A n (zs.take n) := by
  have hlen : (zs.take n).length = n := by rw [List.length_take]; omega
  refine ⟨hlen, hlen, by simp only [maxLen] at hm; omega, fun hp => ?_⟩
  cases A with
  | none => have := hA rfl; omega
  | some a' =>
    refine ⟨a', rfl, fun j p hj => ⟨[.int .i64 p], rfl, rfl, fun i u hu => ?_⟩⟩
    have hjl := (List.getElem?_eq_some_iff.1 hj).1
    have hjn : j < n := by omega
    have hi : i = 0 := by
      have := (List.getElem?_eq_some_iff.1 hu).1
      simp at this
      exact this
    subst hi
    have hu' : Value.int .i64 p = u := by simpa using hu
    show W.cell? (a'.add (j * 1 + 0)) = some u
    rw [← hu', Nat.mul_one, Nat.add_zero, hc a' rfl j (by omega)]
    rw [List.getElem?_take_of_lt hjn] at hj
    rw [List.getD_eq_getElem?_getD, hj]
    rfl
set_option maxRecDepth 100000 in
theorem openInts {H : Type} {enc : TypeId × Value → H} {W : World} {fuel : Nat} {u : Value} {x : DataW H × List MemPlace} (h : DataW.trod enc Try.prog W 0 (fun _ => true) true fuel 24 [u] = some x) : ∃ (l : List Int) (A : Option Addr) (c : Nat), u = .slice A l.length c ∧ l.length ≤ c ∧ (Kd.int .i64).C W A l.length l ∧ l.length ≤ 9223372036854775807 := by
  rcases open_ints Try.underlying24 Try.underlying2 (by kernel_rfl) h with ⟨hcs, _⟩ | ⟨a, len, cap, zs, hcs, _, hl, hm, hz, _, hcell, _⟩
  · exact ⟨[], none, 0, by simpa using hcs, Nat.le_refl _, Kd.C_nil _ _, by simp⟩
  · have hz' : zs.length = cap := by simpa using hz
    obtain ⟨h1, h2⟩ := rowInts (A := some a) (n := len) zs hl hm hz' (by simp) (fun a' e c hc => by cases e; exact hcell c (by omega))
    refine ⟨zs.take len, some a, cap, ?_, by omega, ?_, by simp only [maxLen] at hm; omega⟩
    · rw [h1]; simpa using hcs
    · rw [h1]; exact h2
set_option maxRecDepth 100000 in
theorem openRows {H : Type} {enc : TypeId × Value → H} {W : World} {fuel : Nat} {u : Value} {x : DataW H × List MemPlace} (h : DataW.trod enc Try.prog W 0 (fun _ => true) true fuel 27 [u] = some x) : ∃ (l : List (List Int)) (A : Option Addr) (c : Nat), u = .slice A l.length c ∧ l.length ≤ c ∧ (Kd.slice 2 (Kd.int .i64)).C W A l.length l ∧ l.length ≤ 9223372036854775807 ∧ ∀ r ∈ l, r.length ≤ 9223372036854775807 := by
  rcases Go.Deep.open_int_rows Try.underlying27 Try.underlying24 Try.underlying2 (by kernel_rfl) (by kernel_rfl) h with ⟨hcs, _⟩ | ⟨a, len, cap, A, L, C, Z, hcs, _, hl, hm, _, hrow⟩
  · exact ⟨[], none, 0, by simpa using hcs, Nat.le_refl _, Kd.C_nil _ _, by simp, by simp⟩
  · have hlen : ((List.range len).map fun r => (Z r).take (L r)).length = len := by simp
    simp only [maxLen] at hm
    have hin : ∀ r, r < len → ((Z r).take (L r)).length = L r ∧ (Kd.int .i64).C W (A r) (L r) ((Z r).take (L r)) ∧ L r ≤ C r ∧ C r ≤ maxLen := fun r hr => by
      obtain ⟨_, q1, q2, q3, _, q5, q6⟩ := hrow r (by omega)
      obtain ⟨h1, h2⟩ := rowInts (Z r) q1 q2 q3 q5 (fun a' e c hc => (q6 a' e).2 c hc)
      exact ⟨h1, h2, q1, q2⟩
    refine ⟨(List.range len).map fun r => (Z r).take (L r), some a, cap, ?_, by omega, ?_, by omega, fun r hr => ?_⟩
    · rw [hlen]; simpa using hcs
    · rw [hlen]
      refine ⟨hlen, by omega, fun _ => ⟨a, rfl, fun j p hj => ?_⟩⟩
      have hj' : j < len := by
        have := (List.getElem?_eq_some_iff.1 hj).1
        rw [hlen] at this
        exact this
      have hp : p = (Z j).take (L j) := by
        rw [List.getElem?_map, List.getElem?_range hj'] at hj
        exact (Option.some.inj hj).symm
      obtain ⟨h1, h2, h3, _⟩ := hin j hj'
      refine ⟨[.slice (A j) (L j) (C j)], rfl, ⟨A j, C j, by rw [hp, h1], by rw [hp, h1]; exact h3, by rw [hp, h1]; exact h2⟩, fun i u' hu => ?_⟩
      have hi : i = 0 := by
        have := (List.getElem?_eq_some_iff.1 hu).1
        simp at this
        exact this
      subst hi
      have hu' : Value.slice (A j) (L j) (C j) = u' := by simpa using hu
      show W.cell? (a.add (j * 1 + 0)) = some u'
      rw [← hu', Nat.mul_one, Nat.add_zero]
      exact (hrow j (by omega)).1
    · obtain ⟨j, hj, rfl⟩ := List.mem_map.1 hr
      obtain ⟨h1, _, h3, h4⟩ := hin j (List.mem_range.1 hj)
      rw [h1]
      simp only [maxLen] at h4
      omega
set_option maxRecDepth 100000 in
theorem lifted (os : Os) (started : os.Started) (H : Type) (enc : TypeId × Value → H) :
    ReturnsInHanded {} Try.checked os 7 .any (Rows.fnExactRatioOfSpec.pre6 enc Try.prog Try.f7 Rows.fnExactRatioOfRow.domain false) (Rows.fnExactRatioOfSpec.post enc Try.prog Try.f7 false true false false) := by
  refine returnsInHanded_of_change_sized (C := Try.checked) own started (by kernel_rfl) Try.func7
    (ChangeSpec.witness6 (enc := enc) (C := Try.checked) false ⟨#[], #[.agg #[.slice none 0 0, .slice none 0 0], .slice none 0 0], []⟩ 8 (by kernel_rfl) (by kernel_rfl) (by kernel_rfl) (by kernel_rfl)) ?_
  intro W base args ds gs before hval0 hW hcnd hsz0 _
  have hsz : (DataW.weightsEach Try.prog (Try.f7.params.toList ++ Rows.fnExactRatioOfSpec.plain.varTypes Try.prog) (ds ++ gs)).all (· ≤ reachBytes) = true := hsz0
  have hval : ∀ (j : Nat) t v, Try.f7.params[j]? = some t → args[j]? = some v → Value.okWide Try.prog W .any base t v := hval0
  have hW' := hW
  obtain ⟨p, q, hA0, hV, rfl, hfz, hnd⟩ := hW
  have hA : DataW.TrodAll enc Try.prog W 0 (fun _ => true) true Try.f7.params.toList args.toList ds p := hA0
  rw [Try.params7] at hA hval hsz
  obtain ⟨v0, vs0, d0, ds0, p0, q0, hargs, rfl, rfl, h0, r0⟩ := trodAll_cons hA
  obtain ⟨v1, vs1, d1, ds1, p1, q1, rfl, rfl, rfl, h1, r1⟩ := trodAll_cons r0
  obtain ⟨rfl, rfl, rfl⟩ := trodAll_nil r1
  obtain rfl : args = #[v0, v1] := by cases args; simp_all
  obtain ⟨rfl, rfl⟩ := trodVars_none hV
  have k0 := h0
  have lt0 : ∀ x ∈ p0, x.block < W.heap.size := by obtain ⟨m, hm⟩ := k0; exact DataW.trod_lt m _ _ _ hm
  have k1 := h1
  have lt1 : ∀ x ∈ p1, x.block < W.heap.size := by obtain ⟨m, hm⟩ := k1; exact DataW.trod_lt m _ _ _ hm
  obtain ⟨u0, u1, yy0, yy1, n, rfl, rfl, rfl, g0, g1⟩ := Go.Joins.open_agg2 Try.underlying51 (by kernel_rfl) (by kernel_rfl) (hval 0 51 v0 rfl rfl) h0
  obtain ⟨rows, A0, c0, rfl, hc0, hC0, hm0, hr0⟩ := openRows g0
  obtain ⟨ms, A1, c1, rfl, hc1, hC1, hm1⟩ := openInts g1
  obtain ⟨us, A2, c2, rfl, hc2, hC2, hm2⟩ : ∃ (l : List Int) (A : Option Addr) (c : Nat), v1 = .slice A l.length c ∧ l.length ≤ c ∧ (Kd.int .i64).C W A l.length l ∧ l.length ≤ 9223372036854775807 := by
    obtain ⟨a1, len1, cap1, rfl⟩ := okWide_slice Try.underlying24 (hval 1 24 v1 rfl rfl)
    obtain ⟨fuel, hf⟩ := h1
    exact openInts hf
  clear hA0 hval0 hsz0 hsz
  obtain ⟨k, hk⟩ := Pure.FnExactRatioOf rows ms us hm0 hr0 hm1 hm2
  refine (R.laws_FnExactRatioOf.calls k A0 c0 rows A1 c1 ms A2 c2 us true W hC0 hc0 hC1 hc1 hC2 hc2 hk).mono fun e W' ⟨he, bel⟩ => ?_
  subst he
  exact ⟨_, rfl, _, _, _, [], _, [], hW', trodAll_mk1 (shut_bool Try.underlying4 _), (trodAll_cons_mk (Below.trod laidOut (by kernel_rfl) (of_decide_eq_true (by kernel_rfl)) k0 bel lt0) (trodAll_cons_mk (Below.trod laidOut (by kernel_rfl) (of_decide_eq_true (by kernel_rfl)) k1 bel lt1) trodAll_mk0)), rfl, bel.frame _, fun h => by cases h⟩
theorem over : Rows.fnExactRatioOfRow.holds Try.pinned (OpenSpec.ofChange Rows.fnExactRatioOfSpec) :=
  OpenClaim.holds_of_wide 7 Try.f7 rfl rfl rfl rfl rfl rfl rfl ⟨rfl, rfl, rfl, rfl, rfl⟩ rfl rfl rfl rfl rfl (by kernel_rfl) Try.func7 (by kernel_rfl)
    (of_decide_eq_true (by kernel_rfl)) (by unfold Func.isWrapper; first | (rw [if_pos (by decide +kernel)]; kernel_rfl) | (rw [if_neg (by decide +kernel)]; exact ⟨rfl, rfl⟩))
    (fun os started H enc _ => lifted os started H enc)
theorem proved : Rows.FnExactRatioOfSaid := over
#print axioms proved
end Go.Proofs.Ytndiplmpolkneaa.fnExactRatioOf
namespace Go.Proofs.Ytndiplmpolkneaa
/-- The row, under a short name, for the claim. -/
theorem fnExactRatioOf_holds : Rows.FnExactRatioOfSaid := fnExactRatioOf.proved
end Go.Proofs.Ytndiplmpolkneaa
