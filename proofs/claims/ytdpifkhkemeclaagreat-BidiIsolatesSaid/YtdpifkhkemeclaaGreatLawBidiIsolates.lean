/- BidiIsolates, for every input: the given row. -/
import Derived.Test.YtdpifkhkemeclaaGreatRows
import Derived.Test.YtdpifkhkemeclaaGreatPZi
import Derived.Test.YtdpifkhkemeclaaGreatPureBidiIsolates
import Derived.Test.YtdpifkhkemeclaaGreatOpR
import Derived.WalkKit
import Derived.ProofKit
import Derived.OpenShut
import Derived.ShutString
import Derived.ChangeOld
import Derived.Below
import Derived.SizedLaws
namespace Go.Proofs.YtdpifkhkemeclaaGreat.bidiIsolates
open Go.ChangeShapes Go.WideShapes Go.ChangeAt Go.RowKit Go.Proofs.YtdpifkhkemeclaaGreatW.PrintWords
open Go.ChangeMaps (open_string shut_string)
set_option linter.unusedVariables false
set_option linter.unusedSimpArgs false
theorem own : ownKnob Tryz.prog.godebug = none := by kernel_rfl
theorem laidOut : laidOutB Tryz.prog = true := by kernel_rfl
theorem walk (a0 : Option Addr) (cap0 : Nat) (l0 : List PZ.S38) (a1 : Option Addr) (cap1 : Nat) (l1 : List PZ.S38) (a2 : Option Addr) (cap2 : Nat) (l2 : List PZ.S38) (a3 a4 : Int) (w : World) (hk0 : Kd.C PZ.k38 w a0 l0.length l0) (hc0 : l0.length ≤ cap0) (hk1 : Kd.C PZ.k38 w a1 l1.length l1) (hc1 : l1.length ≤ cap1) (hk2 : Kd.C PZ.k38 w a2 l2.length l2) (hc2 : l2.length ≤ cap2) :
    Calls Tryz.prog 7 #[.slice a0 l0.length cap0, .slice a1 l1.length cap1, .slice a2 l2.length cap2, .int .i64 a3, .int .i64 a4] w fun e w' => e = .returned (.bool true) ∧ Below w.heap.size w w' := by
  obtain ⟨k, h⟩ := Pure.BidiIsolates l0 l1 l2 a3 a4
  exact PZ.lw_BidiIsolates.calls k a0 cap0 l0 a1 cap1 l1 a2 cap2 l2 a3 a4 true w hk0 hc0 hk1 hc1 hk2 hc2 h
set_option maxRecDepth 100000 in
theorem lifted (os : Os) (started : os.Started) (H : Type) (enc : TypeId × Value → H) :
    ReturnsInHanded {} Tryz.checked os 7 .any (Rows.bidiIsolatesSpec.pre6 enc Tryz.prog Tryz.f7 Rows.bidiIsolatesRow.domain false) (Rows.bidiIsolatesSpec.post enc Tryz.prog Tryz.f7 false true false false) := by
  refine returnsInHanded_of_change_sized (C := Tryz.checked) own started (by kernel_rfl) Tryz.func7
    (ChangeSpec.witness6 (enc := enc) (C := Tryz.checked) false ⟨#[], #[.slice none 0 0, .slice none 0 0, .slice none 0 0, .int .i64 0, .int .i64 0], []⟩ 8 (by kernel_rfl) (by kernel_rfl) (by kernel_rfl) (by kernel_rfl)) ?_
  intro W base args ds gs before hval0 hW hcnd hsz0 _
  have hval : ∀ (j : Nat) t v, Tryz.f7.params[j]? = some t → args[j]? = some v → Value.okWide Tryz.prog W .any base t v := hval0
  have hW' := hW
  obtain ⟨p, q, hA0, hV, rfl, hfz, hnd⟩ := hW
  have hA : DataW.TrodAll enc Tryz.prog W 0 (fun _ => true) true Tryz.f7.params.toList args.toList ds p := hA0
  rw [Tryz.params7] at hA hval
  obtain ⟨v0, vs0, d0, ds0, p0, q0, hargs, rfl, rfl, h0, r0⟩ := trodAll_cons hA
  obtain ⟨v1, vs1, d1, ds1, p1, q1, rfl, rfl, rfl, h1, r1⟩ := trodAll_cons r0
  obtain ⟨v2, vs2, d2, ds2, p2, q2, rfl, rfl, rfl, h2, r2⟩ := trodAll_cons r1
  obtain ⟨v3, vs3, d3, ds3, p3, q3, rfl, rfl, rfl, h3, r3⟩ := trodAll_cons r2
  obtain ⟨v4, vs4, d4, ds4, p4, q4, rfl, rfl, rfl, h4, r4⟩ := trodAll_cons r3
  obtain ⟨rfl, rfl, rfl⟩ := trodAll_nil r4
  obtain rfl : args = #[v0, v1, v2, v3, v4] := by cases args; simp_all
  obtain ⟨rfl, rfl⟩ := trodVars_none hV
  obtain ⟨a0, len0, cap0, rfl⟩ := okWide_slice Tryz.underlying22 (hval 0 22 v0 rfl rfl)
  obtain ⟨a1, len1, cap1, rfl⟩ := okWide_slice Tryz.underlying22 (hval 1 22 v1 rfl rfl)
  obtain ⟨a2, len2, cap2, rfl⟩ := okWide_slice Tryz.underlying22 (hval 2 22 v2 rfl rfl)
  obtain ⟨a3, rfl, rfl, rfl, w3⟩ := open_int Tryz.underlying3 (hval 3 3 v3 rfl rfl) h3
  obtain ⟨a4, rfl, rfl, rfl, w4⟩ := open_int Tryz.underlying3 (hval 4 3 v4 rfl rfl) h4
  have k0 := h0
  have lt0 : ∀ x ∈ p0, x.block < W.heap.size := by obtain ⟨m, hm⟩ := k0; exact DataW.trod_lt m _ _ _ hm
  have k1 := h1
  have lt1 : ∀ x ∈ p1, x.block < W.heap.size := by obtain ⟨m, hm⟩ := k1; exact DataW.trod_lt m _ _ _ hm
  have k2 := h2
  have lt2 : ∀ x ∈ p2, x.block < W.heap.size := by obtain ⟨m, hm⟩ := k2; exact DataW.trod_lt m _ _ _ hm
  obtain ⟨l0, hk0, hc0, rfl⟩ : ∃ l0 : List PZ.S38, Kd.C PZ.k38 W a0 l0.length l0 ∧ l0.length ≤ cap0 ∧ len0 = l0.length := by
    obtain ⟨fuel, hf⟩ := h0
    obtain ⟨A, len, cap, l, hcs, e, hk, hc, _⟩ := PZ.open_runes hf
    simp [Value.cells] at hcs
    obtain ⟨rfl, rfl, rfl⟩ := hcs
    exact ⟨l, hk, hc, e⟩
  obtain ⟨l1, hk1, hc1, rfl⟩ : ∃ l1 : List PZ.S38, Kd.C PZ.k38 W a1 l1.length l1 ∧ l1.length ≤ cap1 ∧ len1 = l1.length := by
    obtain ⟨fuel, hf⟩ := h1
    obtain ⟨A, len, cap, l, hcs, e, hk, hc, _⟩ := PZ.open_runes hf
    simp [Value.cells] at hcs
    obtain ⟨rfl, rfl, rfl⟩ := hcs
    exact ⟨l, hk, hc, e⟩
  obtain ⟨l2, hk2, hc2, rfl⟩ : ∃ l2 : List PZ.S38, Kd.C PZ.k38 W a2 l2.length l2 ∧ l2.length ≤ cap2 ∧ len2 = l2.length := by
    obtain ⟨fuel, hf⟩ := h2
    obtain ⟨A, len, cap, l, hcs, e, hk, hc, _⟩ := PZ.open_runes hf
    simp [Value.cells] at hcs
    obtain ⟨rfl, rfl, rfl⟩ := hcs
    exact ⟨l, hk, hc, e⟩
  clear hA0 hval0 hsz0
  refine (walk a0 cap0 l0 a1 cap1 l1 a2 cap2 l2 a3 a4 W hk0 hc0 hk1 hc1 hk2 hc2).mono fun e W' ⟨he, bel⟩ => ?_
  subst he
  exact ⟨_, rfl, _, _, _, [], _, [], hW', trodAll_mk1 (shut_bool Tryz.underlying4 _), (trodAll_cons_mk (Below.trod laidOut (by kernel_rfl) (of_decide_eq_true (by kernel_rfl)) k0 bel lt0) (trodAll_cons_mk (Below.trod laidOut (by kernel_rfl) (of_decide_eq_true (by kernel_rfl)) k1 bel lt1) (trodAll_cons_mk (Below.trod laidOut (by kernel_rfl) (of_decide_eq_true (by kernel_rfl)) k2 bel lt2) (trodAll_cons_mk (shut_int Tryz.underlying3 w3) (trodAll_cons_mk (shut_int Tryz.underlying3 w4) trodAll_mk0))))), rfl, bel.frame _, fun h => by cases h⟩
theorem over : Rows.bidiIsolatesRow.holds Tryz.pinned (OpenSpec.ofChange Rows.bidiIsolatesSpec) :=
  OpenClaim.holds_of_wide 7 Tryz.f7 rfl rfl rfl rfl rfl rfl rfl ⟨rfl, rfl, rfl, rfl, rfl⟩ rfl rfl rfl rfl rfl (by kernel_rfl) Tryz.func7 (by kernel_rfl)
    (of_decide_eq_true (by kernel_rfl)) (by unfold Func.isWrapper; first | (rw [if_pos (by decide +kernel)]; kernel_rfl) | (rw [if_neg (by decide +kernel)]; exact ⟨rfl, rfl⟩))
    (fun os started H enc _ => lifted os started H enc)
theorem proved : Rows.BidiIsolatesSaid := over
#print axioms proved
end Go.Proofs.YtdpifkhkemeclaaGreat.bidiIsolates
namespace Go.Proofs.YtdpifkhkemeclaaGreat
/-- The row, under a short name, for the claim. -/
theorem bidiIsolates_holds : Rows.BidiIsolatesSaid := bidiIsolates.proved
end Go.Proofs.YtdpifkhkemeclaaGreat
