/- sheets: rows put in and deleted again, and a sheet flipped twice, are as they were; what was moved, and what was set: plain laws. -/
import Derived.Test.YtcofacgdijjnoaaGreatNal
import Derived.IntWalk
set_option linter.unusedVariables false
set_option linter.unusedSimpArgs false
namespace Go.Proofs.YtcofacgdijjnoaaGreat
open PE (S31 S44 S49 z31 z44 z49)
theorem num_le (f : S44 → Int) : ∀ (l : List S44) (a b : Int), a ≤ b → (l.Pairwise fun x y => f x < f y) → (∀ x ∈ l, a ≤ f x ∧ f x < b) → (l.length : Int) ≤ b - a
  | [], a, b, hab, _, _ => by simp only [List.length_nil]; omega
  | x :: l, a, b, hab, hp, hm => by
    rw [List.pairwise_cons] at hp
    have hx := hm x (List.mem_cons_self ..)
    have := num_le f l (f x + 1) b (by omega) hp.2 (fun y hy => ⟨by have := hp.1 y hy; omega, (hm y (List.mem_cons_of_mem _ hy)).2⟩)
    rw [List.length_cons]; omega
theorem ok_num {s : Sh} (h : OkS s) : s.ce.length ≤ 384 := by
  have hh := h.htn; have hw := h.wdn
  have := num_le (fun c => c.f0 * 16 + c.f1) s.ce 0 384 (by omega)
    (List.Pairwise.imp_of_mem (fun {x y} hx hy hxy => by
      have k := h.ceE x hx; have k' := h.ceE y hy
      have e0 := k.r0; have e1 := k.r1; have e2 := k.c0; have e3 := k.c1; have e4 := k'.r0; have e5 := k'.r1; have e6 := k'.c0; have e7 := k'.c1
      unfold LtC at hxy
      show x.f0 * 16 + x.f1 < y.f0 * 16 + y.f1
      omega) h.ceS)
    (fun x hx => by
      have k := h.ceE x hx
      have e0 := k.r0; have e1 := k.r1; have e2 := k.c0; have e3 := k.c1
      show 0 ≤ x.f0 * 16 + x.f1 ∧ x.f0 * 16 + x.f1 < 384
      omega)
  omega
/-- a step of rows and columns -/
def stN (kind row col n size : Int) : St := ⟨kind, row, col, 0, 0, n, size, ByteArray.empty, z31⟩
theorem doF_ok {s : Sh} {x : St} (h : OkS s) (k1 : 1 ≤ x.kind) (k2 : x.kind ≤ 11) : doF s x = if (stepF x.kind.toNat s x).2 ≠ 0 then (zSh, (stepF x.kind.toNat s x).2) else ((stepF x.kind.toNat s x).1, 0) := by
  unfold doF
  rw [if_neg (by rw [chk_iff.mpr h]; omega)]
theorem insF_zero {at' n size m1 : Int} {m0 : Nat} {s : Sh} (h : (insF at' n size m0 m1 s).2 = 0) :
    insF at' n size m0 m1 s = (ins at' n size s, 0) ∧ 1 ≤ n ∧ 1 ≤ size ∧ 0 ≤ at' ∧ at' ≤ s.ht.length ∧ n + s.ht.length ≤ m0 ∧ size ≤ m1 := by
  unfold insF at h ⊢
  split at h; · simp at h
  split at h; · simp at h
  split at h; · simp at h
  rename_i h1 h2 h3
  rw [if_neg h1, if_neg h2, if_neg h3]
  refine ⟨rfl, ?_⟩
  omega
/-- rows put in, and deleted again -/
theorem del_insF {mr mc : Nat} {mh mw at' n size : Int} {s : Sh} (h : Ok mr mh mc mw s) (hz : (insF at' n size mr mh s).2 = 0) : delF at' n (ins at' n size s) = (s, 0) := by
  obtain ⟨_, n1, z1, a0, a1, nm, z2⟩ := insF_zero hz
  have hl := ins_len (size := size) n1 a0 a1
  have hne : 0 < s.ht.length := List.length_pos_iff.mpr h.ht0
  unfold delF
  rw [if_neg (by omega), if_neg (by unfold withinF; omega), del_ins h n1 a0 a1]
theorem insF_ne {mr mc : Nat} {mh mw at' n size : Int} {s : Sh} (h : Ok mr mh mc mw s) (hz : (insF at' n size mr mh s).2 = 0) : ins at' n size s ≠ s := by
  obtain ⟨_, n1, z1, a0, a1, nm, z2⟩ := insF_zero hz
  have hl := ins_len (size := size) n1 a0 a1
  intro e
  rw [e] at hl
  omega
theorem ok_trnS {s : Sh} (h : OkS s) : Ok 16 60 24 12 (trn s) := ok_trn h
theorem back_rows {s : Sh} {a c n z c' : Int} (h : OkS s) (hz : (doF s (stN 5 a c n z)).2 = 0) :
    doF (doF s (stN 5 a c n z)).1 (stN 6 a c' n 0) = (s, 0) ∧ (doF s (stN 5 a c n z)).1 ≠ s := by
  have e1 := doF_ok (x := stN 5 a c n z) h (by show (1 : Int) ≤ 5; omega) (by show (5 : Int) ≤ 11; omega)
  have e2 : stepF (stN 5 a c n z).kind.toNat s (stN 5 a c n z) = insF a n z 24 12 s := rfl
  rw [e2] at e1
  have hi : (insF a n z 24 12 s).2 = 0 := by
    refine Classical.byContradiction fun k => ?_
    rw [e1, if_pos k] at hz
    exact k hz
  rw [if_neg (by rw [hi]; simp), (insF_zero hi).1] at e1
  obtain ⟨_, n1, z1, a0, a1, nm, z2⟩ := insF_zero hi
  have hok : OkS (ins a n z s) := ok_ins h n1 z1 z2 a0 a1 nm
  rw [e1]
  have e3 := doF_ok (x := stN 6 a c' n 0) hok (by show (1 : Int) ≤ 6; omega) (by show (6 : Int) ≤ 11; omega)
  have e4 : stepF (stN 6 a c' n 0).kind.toNat (ins a n z s) (stN 6 a c' n 0) = delF a n (ins a n z s) := rfl
  rw [e4, del_insF h hi, if_neg (by simp)] at e3
  exact ⟨e3, insF_ne h hi⟩
theorem back_cols {s : Sh} {a c n z a' : Int} (h : OkS s) (hz : (doF s (stN 7 a c n z)).2 = 0) :
    doF (doF s (stN 7 a c n z)).1 (stN 8 a' c n 0) = (s, 0) ∧ (doF s (stN 7 a c n z)).1 ≠ s := by
  have ht := ok_trnS h
  have e1 := doF_ok (x := stN 7 a c n z) h (by show (1 : Int) ≤ 7; omega) (by show (7 : Int) ≤ 11; omega)
  have e2 : stepF (stN 7 a c n z).kind.toNat s (stN 7 a c n z) = (trn (insF c n z 16 60 (trn s)).1, (insF c n z 16 60 (trn s)).2) := rfl
  rw [e2] at e1
  have hi : (insF c n z 16 60 (trn s)).2 = 0 := by
    refine Classical.byContradiction fun k => ?_
    rw [e1, if_pos k] at hz
    exact k hz
  rw [if_neg (by rw [hi]; simp), (insF_zero hi).1] at e1
  obtain ⟨_, n1, z1, a0, a1, nm, z2⟩ := insF_zero hi
  have hok : Ok 16 60 24 12 (ins c n z (trn s)) := ok_ins ht n1 z1 z2 a0 a1 nm
  have hok' : OkS (trn (ins c n z (trn s))) := ok_trn hok
  rw [e1]
  have e3 := doF_ok (x := stN 8 a' c n 0) hok' (by show (1 : Int) ≤ 8; omega) (by show (8 : Int) ≤ 11; omega)
  have e4 : stepF (stN 8 a' c n 0).kind.toNat (trn (ins c n z (trn s))) (stN 8 a' c n 0) = (trn (delF c n (trn (trn (ins c n z (trn s))))).1, (delF c n (trn (trn (ins c n z (trn s))))).2) := rfl
  rw [e4, trn_trn hok, del_insF ht hi, if_neg (by simp), trn_trn h] at e3
  refine ⟨e3, fun e => insF_ne ht hi ?_⟩
  have := congrArg trn e
  rwa [trn_trn hok] at this
theorem flip_is {s : Sh} {x : St} (h : OkS s) (hk : x.kind = 11) : doF s x = ({ s with rt := 1 - s.rt }, 0) := by
  have e := doF_ok (x := x) h (by omega) (by omega)
  rw [hk] at e
  exact e.trans (if_neg (by show ¬ ((0 : Int) ≠ 0); simp))
theorem flip_two {s : Sh} {x : St} (h : OkS s) (hk : x.kind = 11) : doF { s with rt := 1 - s.rt } x = (s, 0) := by
  rw [flip_is (ok_flip h) hk]
  obtain ⟨a, b, c, d, e⟩ := s
  show ((⟨1 - (1 - a), b, c, d, e⟩ : Sh), (0 : Int)) = _
  rw [show (1 : Int) - (1 - a) = a by omega]
/-! ## what was moved -/
theorem moved_rows {s : Sh} {a c n z : Int} (h : OkS s) (hz : (doF s (stN 5 a c n z)).2 = 0) : ∃ t, doF s (stN 5 a c n z) = (t, 0) ∧ OkS t ∧
    (t.ht.length : Int) = s.ht.length + n ∧ t.ce.length = s.ce.length ∧ 1 ≤ n ∧ n ≤ 24 ∧ ∀ x ∈ s.ce, inC a n x ∈ t.ce := by
  have e1 := doF_ok (x := stN 5 a c n z) h (by show (1 : Int) ≤ 5; omega) (by show (5 : Int) ≤ 11; omega)
  have e2 : stepF (stN 5 a c n z).kind.toNat s (stN 5 a c n z) = insF a n z 24 12 s := rfl
  rw [e2] at e1
  have hi : (insF a n z 24 12 s).2 = 0 := by
    refine Classical.byContradiction fun k => ?_
    rw [e1, if_pos k] at hz
    exact k hz
  rw [if_neg (by rw [hi]; simp), (insF_zero hi).1] at e1
  obtain ⟨_, n1, z1, a0, a1, nm, z2⟩ := insF_zero hi
  refine ⟨ins a n z s, e1, ok_ins h n1 z1 z2 a0 a1 nm, ins_len n1 a0 a1, List.length_map .., n1, by omega, fun x hx => List.mem_map.mpr ⟨x, hx, rfl⟩⟩
theorem moved_cols {s : Sh} {a c n z : Int} (h : OkS s) (hz : (doF s (stN 7 a c n z)).2 = 0) : ∃ t, doF s (stN 7 a c n z) = (t, 0) ∧ OkS t ∧
    (t.wd.length : Int) = s.wd.length + n ∧ t.ce.length = s.ce.length ∧ 1 ≤ n ∧ n ≤ 16 ∧ ∀ x ∈ s.ce, swC (inC c n (swC x)) ∈ t.ce := by
  have ht := ok_trnS h
  have e1 := doF_ok (x := stN 7 a c n z) h (by show (1 : Int) ≤ 7; omega) (by show (7 : Int) ≤ 11; omega)
  have e2 : stepF (stN 7 a c n z).kind.toNat s (stN 7 a c n z) = (trn (insF c n z 16 60 (trn s)).1, (insF c n z 16 60 (trn s)).2) := rfl
  rw [e2] at e1
  have hi : (insF c n z 16 60 (trn s)).2 = 0 := by
    refine Classical.byContradiction fun k => ?_
    rw [e1, if_pos k] at hz
    exact k hz
  rw [if_neg (by rw [hi]; simp), (insF_zero hi).1] at e1
  obtain ⟨_, n1, z1, a0, a1, nm, z2⟩ := insF_zero hi
  have hok : Ok 16 60 24 12 (ins c n z (trn s)) := ok_ins ht n1 z1 z2 a0 a1 nm
  have hl : ∀ l : List S44, (srtC ((((srtC (l.map swC)).map (inC c n)).map swC))).length = l.length := fun l => by rw [len_srtC, List.length_map, List.length_map, len_srtC, List.length_map]
  exact ⟨trn (ins c n z (trn s)), e1, ok_trn hok, ins_len n1 a0 a1, hl _, n1, by omega, fun x hx => mem_srtC.mpr (List.mem_map.mpr ⟨inC c n (swC x), List.mem_map.mpr ⟨swC x, mem_srtC.mpr (List.mem_map.mpr ⟨x, hx, rfl⟩), rfl⟩, rfl⟩)⟩
/-- a row's number behind the rows put in, as the machine counts -/
def mvI (a n i : Int) : Int := if a ≤ i then IntKind.wrap .i64 (i + n) else i
theorem mvI_is {a n i : Int} (n1 : 1 ≤ n) (n2 : n ≤ 24) (i0 : 0 ≤ i) (i1 : i < 24) : mvI a n i = if a ≤ i then i + n else i := by
  unfold mvI
  rw [IntWalk.i64_in (i + n) (by omega)]
theorem inC_f0 (a n : Int) (x : S44) : (inC a n x).f0 = if a ≤ x.f0 then x.f0 + n else x.f0 := by unfold inC; split <;> rfl
theorem inC_eq (a n : Int) (x : S44) : inC a n x = ⟨(inC a n x).f0, x.f1, x.f2, x.f3⟩ := by unfold inC; split <;> rfl
theorem at_rows {s t : Sh} {a n : Int} {x : S44} (h : OkS s) (ht : OkS t) (n1 : 1 ≤ n) (n2 : n ≤ 24) (hx : x ∈ s.ce) (hm : inC a n x ∈ t.ce) :
    get t (mvI a n x.f0) x.f1 = (⟨mvI a n x.f0, x.f1, x.f2, x.f3⟩, 0) := by
  have k := h.ceE x hx
  have k0 := k.r0; have k1 := k.r1; have kh := h.htn
  have e : mvI a n x.f0 = (inC a n x).f0 := by rw [mvI_is n1 n2 k0 (by omega), inC_f0]
  have g := get_mem ht hm
  rw [inC_eq] at g
  rw [e]
  exact g
theorem at_cols {s t : Sh} {a n : Int} {x : S44} (h : OkS s) (ht : OkS t) (n1 : 1 ≤ n) (n2 : n ≤ 16) (hx : x ∈ s.ce) (hm : swC (inC a n (swC x)) ∈ t.ce) :
    get t x.f0 (mvI a n x.f1) = (⟨x.f0, mvI a n x.f1, x.f2, x.f3⟩, 0) := by
  have k := h.ceE x hx
  have k0 := k.c0; have k1 := k.c1; have kh := h.wdn
  have e : mvI a n x.f1 = (inC a n (swC x)).f0 := by rw [mvI_is n1 (by omega) k0 (by omega), inC_f0]; rfl
  have g := get_mem ht hm
  rw [inC_eq] at g
  rw [e]
  exact g
theorem rows_got {s : Sh} {a c n z : Int} (h : OkS s) (hz : (doF s (stN 5 a c n z)).2 = 0) : OkS (doF s (stN 5 a c n z)).1 ∧ ((doF s (stN 5 a c n z)).1.ht.length : Int) = s.ht.length + n ∧ (doF s (stN 5 a c n z)).1.ce.length = s.ce.length ∧ 1 ≤ n ∧ n ≤ 24 ∧
    ∀ x ∈ s.ce, get (doF s (stN 5 a c n z)).1 (mvI a n x.f0) x.f1 = (⟨mvI a n x.f0, x.f1, x.f2, x.f3⟩, 0) := by
  obtain ⟨t, e, ht, h1, h2, n1, n2, hm⟩ := moved_rows h hz
  rw [e]
  exact ⟨ht, h1, h2, n1, n2, fun x hx => at_rows h ht n1 n2 hx (hm x hx)⟩
theorem cols_got {s : Sh} {a c n z : Int} (h : OkS s) (hz : (doF s (stN 7 a c n z)).2 = 0) : OkS (doF s (stN 7 a c n z)).1 ∧ ((doF s (stN 7 a c n z)).1.wd.length : Int) = s.wd.length + n ∧ (doF s (stN 7 a c n z)).1.ce.length = s.ce.length ∧ 1 ≤ n ∧ n ≤ 16 ∧
    ∀ x ∈ s.ce, get (doF s (stN 7 a c n z)).1 x.f0 (mvI c n x.f1) = (⟨x.f0, mvI c n x.f1, x.f2, x.f3⟩, 0) := by
  obtain ⟨t, e, ht, h1, h2, n1, n2, hm⟩ := moved_cols h hz
  rw [e]
  exact ⟨ht, h1, h2, n1, n2, fun x hx => at_cols h ht n1 n2 hx (hm x hx)⟩
/-! ## what was set -/
end Go.Proofs.YtcofacgdijjnoaaGreat
