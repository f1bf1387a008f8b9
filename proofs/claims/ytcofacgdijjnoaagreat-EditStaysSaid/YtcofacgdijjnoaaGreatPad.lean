/- sheets: what a sheet that may be is, and that each step keeps it so: plain laws. EdQ: plain laws of sheets: rows put in and taken out again; a cell laid; merges. EdR: plain laws of sheets: what is asked of a sheet, in the program's own order; a cell's region; what stands there. sheet: two rects meet; a rect within a sheet; the tests that are handed to the library: walked. sheet: the tests that limits, order, Check and around hand to the library: walked. sheet: more of the tests that are handed to the library: walked. -/
import Derived.Test.YtcofacgdijjnoaaGreatPaa
import Derived.Test.YtcofacgdijjnoaaGreatPac
import Derived.Deep.RegionWith
import Derived.Deep.RegionHeld3
section
set_option linter.unusedVariables false
set_option linter.unusedSimpArgs false
namespace Go.Proofs.YtcofacgdijjnoaaGreat
open PE (S31 S44 S49)
/-- a sheet -/
structure Sh where
  rt : Int
  wd : List Int
  ht : List Int
  ce : List S44
  me : List S49
def LtC (x y : S44) : Prop := x.f0 < y.f0 ∨ (x.f0 = y.f0 ∧ x.f1 < y.f1)
def LtR (x y : S49) : Prop := x.f0 < y.f0 ∨ (x.f0 = y.f0 ∧ x.f1 < y.f1)
instance (x y : S44) : Decidable (LtC x y) := by unfold LtC; infer_instance
instance (x y : S49) : Decidable (LtR x y) := by unfold LtR; infer_instance
def Shr (a m b n : Int) : Prop := 1 ≤ m ∧ 1 ≤ n ∧ a < b + n ∧ b < a + m
def Mt (q r : S49) : Prop := Shr q.f0 q.f2 r.f0 r.f2 ∧ Shr q.f1 q.f3 r.f1 r.f3
instance (q r : S49) : Decidable (Mt q r) := by unfold Mt Shr; infer_instance
def Cov (r : S49) (i j : Int) : Prop := r.f0 ≤ i ∧ i < r.f0 + r.f2 ∧ r.f1 ≤ j ∧ j < r.f1 + r.f3
def Stl (x : S31) : Prop := 0 ≤ x.f0 ∧ x.f0 ≤ 4 ∧ 0 ≤ x.f1 ∧ x.f1 ≤ 1 ∧ 0 ≤ x.f2 ∧ x.f2 ≤ 3
def Nil (c : S44) : Prop := c.f2.size = 0 ∧ c.f3.f0 = 0 ∧ c.f3.f1 = 0 ∧ c.f3.f2 = 0
instance (c : S44) : Decidable (Nil c) := by unfold Nil; infer_instance
structure OkC (rows cols : Nat) (c : S44) : Prop where
  tx : c.f2.size ≤ 1024
  st : Stl c.f3
  nn : ¬ Nil c
  r0 : 0 ≤ c.f0
  r1 : c.f0 < rows
  c0 : 0 ≤ c.f1
  c1 : c.f1 < cols
structure OkR (rows cols : Nat) (r : S49) : Prop where
  m : 1 ≤ r.f2
  n : 1 ≤ r.f3
  big : ¬ (r.f2 = 1 ∧ r.f3 = 1)
  r0 : 0 ≤ r.f0
  r1 : r.f0 + r.f2 ≤ rows
  c0 : 0 ≤ r.f1
  c1 : r.f1 + r.f3 ≤ cols
structure Ok (mr : Nat) (mh : Int) (mc : Nat) (mw : Int) (s : Sh) : Prop where
  rt : s.rt = 0 ∨ s.rt = 1
  ht0 : s.ht ≠ []
  htn : s.ht.length ≤ mr
  hte : ∀ h ∈ s.ht, 1 ≤ h ∧ h ≤ mh
  wd0 : s.wd ≠ []
  wdn : s.wd.length ≤ mc
  wde : ∀ h ∈ s.wd, 1 ≤ h ∧ h ≤ mw
  ceS : s.ce.Pairwise LtC
  ceE : ∀ c ∈ s.ce, OkC s.ht.length s.wd.length c
  meS : s.me.Pairwise LtR
  meE : ∀ r ∈ s.me, OkR s.ht.length s.wd.length r
  men : s.me.length ≤ 12
  meM : ∀ q ∈ s.me, ∀ r ∈ s.me, Mt q r → q = r
  un : ∀ c ∈ s.ce, ∀ r ∈ s.me, Cov r c.f0 c.f1 → r.f0 = c.f0 ∧ r.f1 = c.f1
/-! ## sorting -/
/-- one put into a rising row -/
def put {α : Type} (R : α → α → Prop) [DecidableRel R] (x : α) : List α → List α
  | [] => [x]
  | y :: l => if R y x then y :: put R x l else x :: y :: l
def srt {α : Type} (R : α → α → Prop) [DecidableRel R] : List α → List α
  | [] => []
  | x :: l => put R x (srt R l)
theorem mem_put {α : Type} {R : α → α → Prop} [DecidableRel R] {x z : α} : ∀ {l : List α}, z ∈ put R x l ↔ z = x ∨ z ∈ l
  | [] => by simp [put]
  | y :: l => by
      rw [put]; split
      · rw [List.mem_cons, mem_put, List.mem_cons]
        constructor
        · rintro (h | h | h) <;> simp [h]
        · rintro (h | h | h) <;> simp [h]
      · rw [List.mem_cons]
theorem mem_srt {α : Type} {R : α → α → Prop} [DecidableRel R] {z : α} : ∀ {l : List α}, z ∈ srt R l ↔ z ∈ l
  | [] => by simp [srt]
  | y :: l => by rw [srt, mem_put, mem_srt, List.mem_cons]
theorem len_put {α : Type} {R : α → α → Prop} [DecidableRel R] {x : α} : ∀ {l : List α}, (put R x l).length = l.length + 1
  | [] => rfl
  | y :: l => by rw [put]; split <;> simp [len_put]
theorem len_srt {α : Type} {R : α → α → Prop} [DecidableRel R] : ∀ {l : List α}, (srt R l).length = l.length
  | [] => rfl
  | y :: l => by rw [srt, len_put, len_srt]; rfl
theorem put_rise {α : Type} {R : α → α → Prop} [DecidableRel R] (tr : ∀ a b c, R a b → R b c → R a c) {x : α} :
    ∀ {l : List α}, (∀ y ∈ l, R x y ∨ R y x) → l.Pairwise R → (put R x l).Pairwise R
  | [], _, _ => by simp [put]
  | y :: l, h, p => by
      have p' := List.pairwise_cons.mp p
      rw [put]; split
      · rename_i k
        refine List.pairwise_cons.mpr ⟨fun z hz => ?_, put_rise tr (fun z hz => h z (List.mem_cons_of_mem _ hz)) p'.2⟩
        rcases mem_put.mp hz with rfl | hz
        · exact k
        · exact p'.1 z hz
      · rename_i k
        have hxy : R x y := (h y (List.mem_cons_self ..)).resolve_right k
        refine List.pairwise_cons.mpr ⟨fun z hz => ?_, p⟩
        rcases List.mem_cons.mp hz with rfl | hz
        · exact hxy
        · exact tr _ _ _ hxy (p'.1 z hz)
theorem srt_rise {α : Type} {R : α → α → Prop} [DecidableRel R] (tr : ∀ a b c, R a b → R b c → R a c) :
    ∀ {l : List α}, (l.Pairwise fun a b => R a b ∨ R b a) → (srt R l).Pairwise R
  | [], _ => by simp [srt]
  | y :: l, p => by
      have p' := List.pairwise_cons.mp p
      rw [srt]
      exact put_rise tr (fun z hz => p'.1 z (mem_srt.mp hz)) (srt_rise tr p'.2)
instance : DecidableRel LtC := fun x y => inferInstance
instance : DecidableRel LtR := fun x y => inferInstance
def srtC (l : List S44) : List S44 := srt LtC l
def srtR (l : List S49) : List S49 := srt LtR l
/-- two rows with the same members, both rising strictly, are the same row -/
theorem rise_eq {α : Type} {R : α → α → Prop} (irr : ∀ a, ¬ R a a) (tr : ∀ a b c, R a b → R b c → R a c) :
    ∀ (l m : List α), l.Pairwise R → m.Pairwise R → (∀ x, x ∈ l ↔ x ∈ m) → l = m := by
  intro l
  induction l with
  | nil =>
      intro m _ _ h
      cases m with
      | nil => rfl
      | cons y m => exact absurd ((h y).mpr (List.mem_cons_self ..)) (by simp)
  | cons x l ih =>
      intro m hl hm h
      cases m with
      | nil => exact absurd ((h x).mp (List.mem_cons_self ..)) (by simp)
      | cons y m =>
          rw [List.pairwise_cons] at hl hm
          have e : x = y := by
            rcases List.mem_cons.mp ((h x).mp (List.mem_cons_self ..)) with e | hx
            · exact e
            rcases List.mem_cons.mp ((h y).mpr (List.mem_cons_self ..)) with e | hy
            · exact e.symm
            exact absurd (tr _ _ _ (hl.1 y hy) (hm.1 x hx)) (irr x)
          subst e
          congr 1
          refine ih m hl.2 hm.2 fun z => ⟨fun hz => ?_, fun hz => ?_⟩
          · rcases List.mem_cons.mp ((h z).mp (List.mem_cons_of_mem _ hz)) with e | hz'
            · subst e; exact absurd (hl.1 z hz) (irr z)
            · exact hz'
          · rcases List.mem_cons.mp ((h z).mpr (List.mem_cons_of_mem _ hz)) with e | hz'
            · subst e; exact absurd (hm.1 z hz) (irr z)
            · exact hz'
theorem LtC.irr (a : S44) : ¬ LtC a a := by unfold LtC; omega
theorem LtR.irr (a : S49) : ¬ LtR a a := by unfold LtR; omega
theorem LtC.tr (a b c : S44) : LtC a b → LtC b c → LtC a c := by unfold LtC; omega
theorem LtR.tr (a b c : S49) : LtR a b → LtR b c → LtR a c := by unfold LtR; omega
theorem mem_srtC {l : List S44} {x : S44} : x ∈ srtC l ↔ x ∈ l := mem_srt
theorem mem_srtR {l : List S49} {x : S49} : x ∈ srtR l ↔ x ∈ l := mem_srt
/-- a row whose keys differ pairwise is sorted strictly -/
theorem srtC_rise {l : List S44} (h : l.Pairwise fun a b => a.f0 ≠ b.f0 ∨ a.f1 ≠ b.f1) : (srtC l).Pairwise LtC :=
  srt_rise LtC.tr (h.imp fun {a b} k => by unfold LtC; omega)
theorem srtR_rise {l : List S49} (h : l.Pairwise fun a b => a.f0 ≠ b.f0 ∨ a.f1 ≠ b.f1) : (srtR l).Pairwise LtR :=
  srt_rise LtR.tr (h.imp fun {a b} k => by unfold LtR; omega)
theorem ne_of_LtC {a b : S44} (h : LtC a b) : a.f0 ≠ b.f0 ∨ a.f1 ≠ b.f1 := by unfold LtC at h; omega
theorem ne_of_LtR {a b : S49} (h : LtR a b) : a.f0 ≠ b.f0 ∨ a.f1 ≠ b.f1 := by unfold LtR at h; omega
theorem srtC_id {l : List S44} (h : l.Pairwise LtC) : srtC l = l :=
  rise_eq LtC.irr LtC.tr _ _ (srtC_rise (h.imp fun {a b} k => ne_of_LtC k)) h fun x => mem_srtC
theorem len_srtR (l : List S49) : (srtR l).length = l.length := len_srt
theorem len_srtC (l : List S44) : (srtC l).length = l.length := len_srt
/-! ## turning -/
def swC (c : S44) : S44 := ⟨c.f1, c.f0, c.f2, c.f3⟩
def swR (r : S49) : S49 := ⟨r.f1, r.f0, r.f3, r.f2⟩
def trn (s : Sh) : Sh := ⟨s.rt, s.ht, s.wd, srtC (s.ce.map swC), srtR (s.me.map swR)⟩
theorem ok_trn {mr mc : Nat} {mh mw : Int} {s : Sh} (h : Ok mr mh mc mw s) : Ok mc mw mr mh (trn s) := by
  refine ⟨h.rt, h.wd0, h.wdn, h.wde, h.ht0, h.htn, h.hte, ?_, ?_, ?_, ?_, ?_, ?_, ?_⟩
  · refine srtC_rise (List.pairwise_map.mpr (h.ceS.imp fun {a b} k => ?_))
    have := ne_of_LtC k
    simp only [swC]; omega
  · intro c hc
    obtain ⟨d, hd, rfl⟩ := List.mem_map.mp (mem_srtC.mp hc)
    obtain ⟨a1, a2, a3, a4, a5, a6, a7⟩ := h.ceE d hd
    exact ⟨a1, a2, fun e => a3 e, a6, a7, a4, a5⟩
  · refine srtR_rise (List.pairwise_map.mpr (h.meS.imp fun {a b} k => ?_))
    have := ne_of_LtR k
    simp only [swR]; omega
  · intro c hc
    obtain ⟨d, hd, rfl⟩ := List.mem_map.mp (mem_srtR.mp hc)
    obtain ⟨a1, a2, a3, a4, a5, a6, a7⟩ := h.meE d hd
    exact ⟨a2, a1, fun e => a3 ⟨e.2, e.1⟩, a6, a7, a4, a5⟩
  · show (srtR _).length ≤ 12
    rw [len_srtR, List.length_map]; exact h.men
  · intro q hq r hr hm
    obtain ⟨q', hq', rfl⟩ := List.mem_map.mp (mem_srtR.mp hq)
    obtain ⟨r', hr', rfl⟩ := List.mem_map.mp (mem_srtR.mp hr)
    exact congrArg swR (h.meM q' hq' r' hr' ⟨hm.2, hm.1⟩)
  · intro c hc r hr hv
    obtain ⟨d, hd, rfl⟩ := List.mem_map.mp (mem_srtC.mp hc)
    obtain ⟨r', hr', rfl⟩ := List.mem_map.mp (mem_srtR.mp hr)
    have := h.un d hd r' hr' ⟨hv.2.2.1, hv.2.2.2, hv.1, hv.2.1⟩
    exact ⟨this.2, this.1⟩
/-! ## rows put in -/
def inC (at' n : Int) (c : S44) : S44 := if at' ≤ c.f0 then { c with f0 := c.f0 + n } else c
def inR (at' n : Int) (r : S49) : S49 :=
  if at' ≤ r.f0 then { r with f0 := r.f0 + n } else if at' < r.f0 + r.f2 then { r with f2 := r.f2 + n } else r
def ins (at' n size : Int) (s : Sh) : Sh :=
  ⟨s.rt, s.wd, s.ht.take at'.toNat ++ List.replicate n.toNat size ++ s.ht.drop at'.toNat, s.ce.map (inC at' n), s.me.map (inR at' n)⟩
theorem ok_ins {mr mc : Nat} {mh mw at' n size : Int} {s : Sh} (h : Ok mr mh mc mw s) (n1 : 1 ≤ n) (z1 : 1 ≤ size) (z2 : size ≤ mh)
    (a0 : 0 ≤ at') (a1 : at' ≤ s.ht.length) (nm : n + s.ht.length ≤ mr) : Ok mr mh mc mw (ins at' n size s) := by
  have hl : (ins at' n size s).ht.length = s.ht.length + n.toNat := by
    simp only [ins, List.length_append, List.length_take, List.length_drop, List.length_replicate]; omega
  refine ⟨h.rt, ?_, by omega, ?_, h.wd0, h.wdn, h.wde, ?_, ?_, ?_, ?_, ?_, ?_, ?_⟩
  · intro e; rw [e] at hl; simp only [List.length_nil] at hl; omega
  · intro x hx
    simp only [ins, List.mem_append, List.mem_replicate] at hx
    rcases hx with (hx | ⟨_, rfl⟩) | hx
    · exact h.hte x (List.mem_of_mem_take hx)
    · exact ⟨z1, z2⟩
    · exact h.hte x (List.mem_of_mem_drop hx)
  · refine List.pairwise_map.mpr (h.ceS.imp fun {a b} k => ?_)
    unfold LtC inC at *
    split <;> split <;> (try simp only) <;> omega
  · intro c hc
    obtain ⟨d, hd, rfl⟩ := List.mem_map.mp hc
    obtain ⟨b1, b2, b3, b4, b5, b6, b7⟩ := h.ceE d hd
    rw [hl]
    unfold inC; split
    · exact ⟨b1, b2, b3, by simp only; omega, by simp only; omega, b6, b7⟩
    · exact ⟨b1, b2, b3, b4, by omega, b6, b7⟩
  · refine List.pairwise_map.mpr (h.meS.imp fun {a b} k => ?_)
    unfold LtR inR at *
    split <;> split <;> (try split) <;> (try split) <;> (try simp only) <;> omega
  · intro c hc
    obtain ⟨d, hd, rfl⟩ := List.mem_map.mp hc
    obtain ⟨b1, b2, b3, b4, b5, b6, b7⟩ := h.meE d hd
    rw [hl]
    unfold inR; split
    · exact ⟨b1, b2, b3, by simp only; omega, by simp only; omega, b6, b7⟩
    · split
      · exact ⟨by simp only; omega, b2, by simp only; omega, b4, by simp only; omega, b6, b7⟩
      · exact ⟨b1, b2, b3, b4, by omega, b6, b7⟩
  · show (s.me.map _).length ≤ 12
    rw [List.length_map]; exact h.men
  · intro q hq r hr hm
    obtain ⟨q', hq', rfl⟩ := List.mem_map.mp hq
    obtain ⟨r', hr', rfl⟩ := List.mem_map.mp hr
    refine congrArg (inR at' n) (h.meM q' hq' r' hr' ?_)
    have := (h.meE q' hq').m; have := (h.meE r' hr').m
    unfold Mt Shr inR at *
    revert hm
    split <;> split <;> (try split) <;> (try split) <;> (try simp only) <;> omega
  · intro c hc r hr hv
    obtain ⟨d, hd, rfl⟩ := List.mem_map.mp hc
    obtain ⟨r', hr', rfl⟩ := List.mem_map.mp hr
    have k := h.un d hd r' hr'
    have := (h.meE r' hr').m
    unfold Cov inR inC at *
    revert hv
    split <;> split <;> (try split) <;> (try split) <;> (try simp only) <;> omega
/-! ## rows taken out -/
def gone (at' n row : Int) : Int := min (max (row - at') 0) n
def dlC (at' n : Int) (c : S44) : S44 := { c with f0 := c.f0 - gone at' n c.f0 }
def dlR (at' n : Int) (r : S49) : S49 :=
  { r with f0 := r.f0 - gone at' n r.f0, f2 := r.f0 + r.f2 - gone at' n (r.f0 + r.f2) - (r.f0 - gone at' n r.f0) }
def del (at' n : Int) (s : Sh) : Sh :=
  ⟨s.rt, s.wd, s.ht.take at'.toNat ++ s.ht.drop (at' + n).toNat,
   (s.ce.filter fun c => decide (¬ (at' ≤ c.f0 ∧ c.f0 < at' + n))).map (dlC at' n),
   srtR ((s.me.map (dlR at' n)).filter fun r => decide (¬ r.f2 * r.f3 < 2))⟩
theorem ok_del {mr mc : Nat} {mh mw at' n : Int} {s : Sh} (h : Ok mr mh mc mw s) (n1 : 1 ≤ n) (a0 : 0 ≤ at') (a1 : at' + n ≤ s.ht.length)
    (ne : ¬ (at' = 0 ∧ n = s.ht.length)) : Ok mr mh mc mw (del at' n s) := by
  have hl : (del at' n s).ht.length = s.ht.length - n.toNat := by
    simp only [del, List.length_append, List.length_take, List.length_drop]; omega
  have memR : ∀ r, r ∈ (del at' n s).me → ∃ q ∈ s.me, r = dlR at' n q ∧ 2 ≤ r.f2 * r.f3 := by
    intro r hr
    have := List.mem_filter.mp (mem_srtR.mp hr)
    obtain ⟨q, hq, rfl⟩ := List.mem_map.mp this.1
    refine ⟨q, hq, rfl, ?_⟩
    have := this.2
    simp only [decide_eq_true_eq] at this
    omega
  have pos : ∀ q ∈ s.me, 2 ≤ (dlR at' n q).f2 * (dlR at' n q).f3 → 1 ≤ (dlR at' n q).f2 := by
    intro q hq h2
    have b2 := (h.meE q hq).n
    have b1 := (h.meE q hq).m
    have h0 : 0 ≤ (dlR at' n q).f2 := by simp only [dlR, gone]; omega
    rcases Int.lt_or_le 0 (dlR at' n q).f2 with h3 | h3
    · omega
    · have : (dlR at' n q).f2 = 0 := by omega
      rw [this] at h2; omega
  have mt : ∀ q ∈ s.me, ∀ r ∈ s.me, Mt (dlR at' n q) (dlR at' n r) → Mt q r := by
    intro q hq r hr hm
    have := (h.meE q hq).m; have := (h.meE r hr).m
    unfold Mt Shr dlR gone at *
    simp only at hm
    omega
  refine ⟨h.rt, ?_, by have := h.htn; omega, ?_, h.wd0, h.wdn, h.wde, ?_, ?_, ?_, ?_, ?_, ?_, ?_⟩
  · intro e; rw [e] at hl; simp only [List.length_nil] at hl; omega
  · intro x hx
    simp only [del, List.mem_append] at hx
    rcases hx with hx | hx
    · exact h.hte x (List.mem_of_mem_take hx)
    · exact h.hte x (List.mem_of_mem_drop hx)
  · refine List.pairwise_map.mpr ?_
    have hf : (s.ce.filter fun c => decide (¬ (at' ≤ c.f0 ∧ c.f0 < at' + n))).Pairwise fun a b => LtC a b ∧ ¬ (at' ≤ a.f0 ∧ a.f0 < at' + n) ∧ ¬ (at' ≤ b.f0 ∧ b.f0 < at' + n) := by
      rw [List.pairwise_filter]
      refine h.ceS.imp fun {a b} k ha hb => ?_
      simp only [decide_eq_true_eq] at ha hb
      exact ⟨k, ha, hb⟩
    refine hf.imp fun {a b} ⟨k, ha, hb⟩ => ?_
    unfold LtC dlC gone at *; simp only; omega
  · intro c hc
    obtain ⟨d, hd, rfl⟩ := List.mem_map.mp hc
    obtain ⟨hd, k⟩ := List.mem_filter.mp hd
    simp only [decide_eq_true_eq] at k
    obtain ⟨b1, b2, b3, b4, b5, b6, b7⟩ := h.ceE d hd
    rw [hl]
    exact ⟨b1, b2, b3, by simp only [dlC, gone]; omega, by simp only [dlC, gone]; omega, b6, b7⟩
  · refine srtR_rise ?_
    rw [List.pairwise_filter, List.pairwise_map]
    have hm : s.me.Pairwise fun a b => LtR a b ∧ a ∈ s.me ∧ b ∈ s.me := by
      exact List.pairwise_iff_forall_sublist.mpr fun {a b} hs => ⟨List.pairwise_iff_forall_sublist.mp h.meS hs, hs.subset (by simp), hs.subset (by simp)⟩
    refine hm.imp fun {a b} ⟨k, ha, hb⟩ h1 h2 => ?_
    simp only [decide_eq_true_eq] at h1 h2
    have p1 := pos a ha (by omega); have p2 := pos b hb (by omega)
    have c1 := (h.meE a ha).n; have c2 := (h.meE b hb).n
    rcases Classical.em ((dlR at' n a).f0 = (dlR at' n b).f0 ∧ (dlR at' n a).f1 = (dlR at' n b).f1) with e | e
    · exfalso
      have := h.meM a ha b hb (mt a ha b hb ⟨⟨p1, p2, by omega, by omega⟩, ⟨c1, c2, by show a.f1 < b.f1 + b.f3; have : a.f1 = b.f1 := e.2; omega, by show b.f1 < a.f1 + a.f3; have : a.f1 = b.f1 := e.2; omega⟩⟩)
      subst this; exact LtR.irr _ k
    · omega
  · intro r hr
    obtain ⟨q, hq, rfl, h2⟩ := memR r hr
    have p := pos q hq h2
    obtain ⟨b1, b2, b3, b4, b5, b6, b7⟩ := h.meE q hq
    rw [hl]
    refine ⟨p, b2, ?_, by simp only [dlR, gone]; omega, by simp only [dlR, gone]; omega, b6, b7⟩
    rintro ⟨e1, e2⟩
    rw [e1, e2] at h2; omega
  · show (srtR _).length ≤ 12
    rw [len_srtR]
    have := List.length_filter_le (fun r : S49 => decide (¬ r.f2 * r.f3 < 2)) (s.me.map (dlR at' n))
    rw [List.length_map] at this
    have := h.men; omega
  · intro q hq r hr hm
    obtain ⟨q', hq', rfl, _⟩ := memR q hq
    obtain ⟨r', hr', rfl, _⟩ := memR r hr
    exact congrArg (dlR at' n) (h.meM q' hq' r' hr' (mt _ hq' _ hr' hm))
  · intro c hc r hr hv
    obtain ⟨d, hd, rfl⟩ := List.mem_map.mp hc
    obtain ⟨hd, kd⟩ := List.mem_filter.mp hd
    simp only [decide_eq_true_eq] at kd
    obtain ⟨q, hq, rfl, h2⟩ := memR r hr
    have k := h.un d hd q hq
    have b1 := (h.meE q hq).m
    unfold Cov dlR dlC gone at *
    simp only at hv ⊢
    omega
end Go.Proofs.YtcofacgdijjnoaaGreat
end
section
set_option linter.unusedVariables false
set_option linter.unusedSimpArgs false
namespace Go.Proofs.YtcofacgdijjnoaaGreat
open PE (S31 S44 S49)
/-! ## a cell laid -/
def lay (c : S44) (l : List S44) : List S44 :=
  l.filter (fun x => decide (LtC x c)) ++ (if Nil c then [] else [c]) ++ l.filter (fun x => decide (LtC c x))
theorem mem_lay {c x : S44} {l : List S44} : x ∈ lay c l ↔ (x ∈ l ∧ (LtC x c ∨ LtC c x)) ∨ (x = c ∧ ¬ Nil c) := by
  unfold lay
  simp only [List.mem_append, List.mem_filter, decide_eq_true_eq]
  split
  · rename_i k; simp only [List.not_mem_nil, or_false]
    constructor
    · rintro (h | h)
      · exact .inl ⟨h.1, .inl h.2⟩
      · exact .inl ⟨h.1, .inr h.2⟩
    · rintro (⟨h, h' | h'⟩ | h)
      · exact .inl ⟨h, h'⟩
      · exact .inr ⟨h, h'⟩
      · exact absurd k h.2
  · rename_i k; simp only [List.mem_singleton]
    constructor
    · rintro ((h | h) | h)
      · exact .inl ⟨h.1, .inl h.2⟩
      · exact .inr ⟨h, k⟩
      · exact .inl ⟨h.1, .inr h.2⟩
    · rintro (⟨h, h' | h'⟩ | h)
      · exact .inl (.inl ⟨h, h'⟩)
      · exact .inr ⟨h, h'⟩
      · exact .inl (.inr h.1)
theorem lay_rise {c : S44} {l : List S44} (h : l.Pairwise LtC) : (lay c l).Pairwise LtC := by
  unfold lay
  rw [List.pairwise_append, List.pairwise_append]
  refine ⟨⟨h.filter _, by split <;> simp, ?_⟩, h.filter _, ?_⟩
  · intro a ha b hb
    have := (List.mem_filter.mp ha).2
    simp only [decide_eq_true_eq] at this
    split at hb
    · simp at hb
    · rw [List.mem_singleton] at hb; subst hb; exact this
  · intro a ha b hb
    have hb' := (List.mem_filter.mp hb).2
    simp only [decide_eq_true_eq] at hb'
    rcases List.mem_append.mp ha with ha | ha
    · have := (List.mem_filter.mp ha).2
      simp only [decide_eq_true_eq] at this
      exact LtC.tr _ _ _ this hb'
    · split at ha
      · simp at ha
      · rw [List.mem_singleton] at ha; subst ha; exact hb'
theorem ok_lay {mr mc : Nat} {mh mw : Int} {s : Sh} (h : Ok mr mh mc mw s) {c : S44} (tx : c.f2.size ≤ 1024) (st : Stl c.f3)
    (r0 : 0 ≤ c.f0) (r1 : c.f0 < s.ht.length) (c0 : 0 ≤ c.f1) (c1 : c.f1 < s.wd.length)
    (un : ∀ r ∈ s.me, Cov r c.f0 c.f1 → r.f0 = c.f0 ∧ r.f1 = c.f1) : Ok mr mh mc mw { s with ce := lay c s.ce } := by
  refine ⟨h.rt, h.ht0, h.htn, h.hte, h.wd0, h.wdn, h.wde, lay_rise h.ceS, ?_, h.meS, h.meE, h.men, h.meM, ?_⟩
  · intro x hx
    rcases mem_lay.mp hx with ⟨hx, _⟩ | ⟨rfl, k⟩
    · exact h.ceE x hx
    · exact ⟨tx, st, k, r0, r1, c0, c1⟩
  · intro x hx
    rcases mem_lay.mp hx with ⟨hx, _⟩ | ⟨rfl, k⟩
    · exact h.un x hx
    · exact un
/-! ## merges -/
def mrg (r : S49) (s : Sh) : Sh :=
  { s with me := srtR (s.me ++ [r]), ce := s.ce.filter fun c => decide (¬ ((c.f0 ≠ r.f0 ∨ c.f1 ≠ r.f1) ∧ Mt ⟨c.f0, c.f1, 1, 1⟩ r)) }
theorem Mt.symm {q r : S49} (h : Mt q r) : Mt r q := by unfold Mt Shr at *; omega
theorem mt_one {r : S49} {i j : Int} (m : 1 ≤ r.f2) (n : 1 ≤ r.f3) : Mt ⟨i, j, 1, 1⟩ r ↔ Cov r i j := by
  unfold Mt Shr Cov; simp only; omega
theorem ok_mrg {mr mc : Nat} {mh mw : Int} {s : Sh} (h : Ok mr mh mc mw s) {r : S49} (hr : OkR s.ht.length s.wd.length r)
    (hm : ∀ q ∈ s.me, ¬ Mt q r) (hn : s.me.length ≠ 12) : Ok mr mh mc mw (mrg r s) := by
  have mem : ∀ q, q ∈ (mrg r s).me ↔ q ∈ s.me ∨ q = r := by
    intro q
    show q ∈ srtR _ ↔ _
    rw [mem_srtR, List.mem_append, List.mem_singleton]
  refine ⟨h.rt, h.ht0, h.htn, h.hte, h.wd0, h.wdn, h.wde, h.ceS.filter _, ?_, ?_, ?_, ?_, ?_, ?_⟩
  · intro c hc; exact h.ceE c (List.mem_filter.mp hc).1
  · refine srtR_rise ?_
    rw [List.pairwise_append]
    refine ⟨h.meS.imp fun {a b} k => ne_of_LtR k, by simp, fun a ha b hb => ?_⟩
    rw [List.mem_singleton] at hb; subst hb
    rcases Classical.em (a.f0 ≠ b.f0 ∨ a.f1 ≠ b.f1) with k | k
    · exact k
    · exfalso
      have := h.meE a ha
      exact hm a ha ⟨⟨this.m, hr.m, by have := hr.m; omega, by have := this.m; omega⟩, ⟨this.n, hr.n, by have := hr.n; omega, by have := this.n; omega⟩⟩
  · intro q hq
    rcases (mem q).mp hq with hq | rfl
    · exact h.meE q hq
    · exact hr
  · show (srtR _).length ≤ 12
    rw [len_srtR, List.length_append]
    have := h.men
    simp only [List.length_singleton]; omega
  · intro q hq p hp k
    rcases (mem q).mp hq with hq1 | hq1 <;> rcases (mem p).mp hp with hp1 | hp1
    · exact h.meM q hq1 p hp1 k
    · subst hp1; exact absurd k (hm q hq1)
    · subst hq1; exact absurd k.symm (hm p hp1)
    · rw [hq1, hp1]
  · intro c hc q hq hv
    have hc' := List.mem_filter.mp hc
    simp only [decide_eq_true_eq] at hc'
    rcases (mem q).mp hq with hq | rfl
    · exact h.un c hc'.1 q hq hv
    · have k := hc'.2
      rw [mt_one hr.m hr.n] at k
      rcases Classical.em (c.f0 ≠ q.f0 ∨ c.f1 ≠ q.f1) with e | e
      · exact absurd ⟨e, hv⟩ k
      · omega
def sameR (q r : S49) : Prop := q.f0 = r.f0 ∧ q.f1 = r.f1 ∧ q.f2 = r.f2 ∧ q.f3 = r.f3
instance (q r : S49) : Decidable (sameR q r) := by unfold sameR; infer_instance
def unm (r : S49) (s : Sh) : Sh := { s with me := s.me.filter fun q => decide (¬ sameR q r) }
theorem ok_unm {mr mc : Nat} {mh mw : Int} {s : Sh} (h : Ok mr mh mc mw s) (r : S49) : Ok mr mh mc mw (unm r s) := by
  refine ⟨h.rt, h.ht0, h.htn, h.hte, h.wd0, h.wdn, h.wde, h.ceS, h.ceE, h.meS.filter _, ?_, ?_, ?_, ?_⟩
  · intro q hq; exact h.meE q (List.mem_filter.mp hq).1
  · exact Nat.le_trans (List.length_filter_le _ _) h.men
  · intro q hq p hp; exact h.meM q (List.mem_filter.mp hq).1 p (List.mem_filter.mp hp).1
  · intro c hc q hq; exact h.un c hc q (List.mem_filter.mp hq).1
/-! ## sizes, sides -/
theorem ok_high {mr mc : Nat} {mh mw at' size : Int} {s : Sh} (h : Ok mr mh mc mw s) (z1 : 1 ≤ size) (z2 : size ≤ mh) :
    Ok mr mh mc mw { s with ht := s.ht.set at'.toNat size } := by
  have hl : (s.ht.set at'.toNat size).length = s.ht.length := List.length_set
  refine ⟨h.rt, ?_, by rw [hl]; exact h.htn, ?_, h.wd0, h.wdn, h.wde, h.ceS, ?_, h.meS, ?_, h.men, h.meM, h.un⟩
  · intro e
    have : (s.ht.set at'.toNat size).length = 0 := by rw [show s.ht.set at'.toNat size = [] from e]; rfl
    rw [hl] at this
    exact h.ht0 (List.eq_nil_of_length_eq_zero this)
  · intro x hx
    rcases List.mem_or_eq_of_mem_set hx with hx | rfl
    · exact h.hte x hx
    · exact ⟨z1, z2⟩
  · intro c hc; show OkC (s.ht.set at'.toNat size).length _ c; rw [hl]; exact h.ceE c hc
  · intro c hc; show OkR (s.ht.set at'.toNat size).length _ c; rw [hl]; exact h.meE c hc
theorem ok_wide {mr mc : Nat} {mh mw at' size : Int} {s : Sh} (h : Ok mr mh mc mw s) (z1 : 1 ≤ size) (z2 : size ≤ mw) :
    Ok mr mh mc mw { s with wd := s.wd.set at'.toNat size } := by
  have hl : (s.wd.set at'.toNat size).length = s.wd.length := List.length_set
  refine ⟨h.rt, h.ht0, h.htn, h.hte, ?_, by rw [hl]; exact h.wdn, ?_, h.ceS, ?_, h.meS, ?_, h.men, h.meM, h.un⟩
  · intro e
    have : (s.wd.set at'.toNat size).length = 0 := by rw [show s.wd.set at'.toNat size = [] from e]; rfl
    rw [hl] at this
    exact h.wd0 (List.eq_nil_of_length_eq_zero this)
  · intro x hx
    rcases List.mem_or_eq_of_mem_set hx with hx | rfl
    · exact h.wde x hx
    · exact ⟨z1, z2⟩
  · intro c hc; show OkC _ (s.wd.set at'.toNat size).length c; rw [hl]; exact h.ceE c hc
  · intro c hc; show OkR _ (s.wd.set at'.toNat size).length c; rw [hl]; exact h.meE c hc
theorem ok_flip {mr mc : Nat} {mh mw : Int} {s : Sh} (h : Ok mr mh mc mw s) : Ok mr mh mc mw { s with rt := 1 - s.rt } := by
  have := h.rt
  exact ⟨by show 1 - s.rt = 0 ∨ 1 - s.rt = 1; omega, h.ht0, h.htn, h.hte, h.wd0, h.wdn, h.wde, h.ceS, h.ceE, h.meS, h.meE, h.men, h.meM, h.un⟩
end Go.Proofs.YtcofacgdijjnoaaGreat
end
section
set_option linter.unusedVariables false
set_option linter.unusedSimpArgs false
namespace Go.Proofs.YtcofacgdijjnoaaGreat
open PE (S31 S44 S49)
def ovr (l : List Int) (many : Nat) (most : Int) : Bool := decide (many < l.length) || l.any fun n => decide (most < n)
def limB (s : Sh) : Bool :=
  !(s.ce.any fun c => decide (1024 < c.f2.size)) && !ovr s.wd 16 60 && !ovr s.ht 24 12 && decide (s.me.length ≤ 12)
def siz (l : List Int) : Bool := decide (0 < l.length) && l.all fun n => decide (1 ≤ n)
def chn {α : Type} (R : α → α → Prop) [DecidableRel R] : List α → Bool
  | a :: b :: t => decide (R a b) && chn R (b :: t)
  | _ => true
instance (x : S31) : Decidable (Stl x) := by unfold Stl; infer_instance
def badC (c : S44) : Bool := !decide (Stl c.f3) || decide (Nil c)
def smlR (r : S49) : Bool := decide (r.f2 < 1) || decide (r.f3 < 1) || (decide (r.f2 = 1) && decide (r.f3 = 1))
def ordB (s : Sh) : Bool :=
  decide (0 ≤ s.rt) && decide (s.rt ≤ 1) && siz s.wd && siz s.ht && chn LtC s.ce && chn LtR s.me && !s.ce.any badC && !s.me.any smlR
def hasB (rows cols : Nat) (r : S49) : Bool :=
  decide (0 ≤ r.f0) && decide (0 ≤ r.f1) && decide (r.f2 ≤ rows) && decide (r.f3 ≤ cols) && decide (r.f0 ≤ rows - r.f2) && decide (r.f1 ≤ cols - r.f3)
def one (i j : Int) : S49 := ⟨i, j, 1, 1⟩
def outB (s : Sh) : Bool :=
  (s.ce.any fun c => !hasB s.ht.length s.wd.length (one c.f0 c.f1)) || s.me.any fun r => !hasB s.ht.length s.wd.length r
def ovB : List S49 → List S49 → Bool
  | _, [] => false
  | p, r :: t => (p.any fun q => decide (Mt q r)) || ovB (p ++ [r]) t
def aro (me : List S49) (i j : Int) : S49 := (me.find? fun r => decide (Mt r (one i j))).getD (one i j)
def undB (s : Sh) : Bool := s.ce.any fun c => !(decide (c.f0 = (aro s.me c.f0 c.f1).f0) && decide (c.f1 = (aro s.me c.f0 c.f1).f1))
def chk (s : Sh) : Int :=
  if limB s = false then 3 else if ordB s = false then 1 else if outB s = true then 4 else if ovB [] s.me = true then 5 else if undB s = true then 6 else 0
theorem ovr_iff {l : List Int} {many : Nat} {most : Int} : ovr l many most = false ↔ l.length ≤ many ∧ ∀ n ∈ l, n ≤ most := by
  unfold ovr
  simp only [Bool.or_eq_false_iff, decide_eq_false_iff_not, List.any_eq_false, decide_eq_true_eq, Int.not_lt, Nat.not_lt]
theorem siz_iff {l : List Int} : siz l = true ↔ l ≠ [] ∧ ∀ n ∈ l, 1 ≤ n := by
  unfold siz
  simp only [Bool.and_eq_true, decide_eq_true_eq, List.all_eq_true]
  rw [List.length_pos_iff]
theorem chn_iff {α : Type} {R : α → α → Prop} [DecidableRel R] (tr : ∀ a b c, R a b → R b c → R a c) : ∀ {l : List α}, chn R l = true ↔ l.Pairwise R
  | [] => by simp [chn]
  | [a] => by simp [chn]
  | a :: b :: t => by
      rw [chn, Bool.and_eq_true, decide_eq_true_eq, chn_iff tr (l := b :: t), List.pairwise_cons (a := a)]
      constructor
      · rintro ⟨h, p⟩
        refine ⟨fun z hz => ?_, p⟩
        rcases List.mem_cons.mp hz with rfl | hz
        · exact h
        · exact tr _ _ _ h ((List.pairwise_cons.mp p).1 z hz)
      · rintro ⟨h, p⟩
        exact ⟨h b (List.mem_cons_self ..), p⟩
theorem badC_iff {c : S44} : badC c = false ↔ Stl c.f3 ∧ ¬ Nil c := by
  unfold badC
  simp only [Bool.or_eq_false_iff, decide_eq_false_iff_not, Bool.not_eq_false', decide_eq_true_eq]
theorem smlR_iff {r : S49} : smlR r = false ↔ 1 ≤ r.f2 ∧ 1 ≤ r.f3 ∧ ¬ (r.f2 = 1 ∧ r.f3 = 1) := by
  unfold smlR
  simp only [Bool.or_eq_false_iff, decide_eq_false_iff_not, Bool.and_eq_false_iff]
  omega
theorem hasB_iff {rows cols : Nat} {r : S49} : hasB rows cols r = true ↔ 0 ≤ r.f0 ∧ 0 ≤ r.f1 ∧ r.f2 ≤ rows ∧ r.f3 ≤ cols ∧ r.f0 ≤ rows - r.f2 ∧ r.f1 ≤ cols - r.f3 := by
  unfold hasB
  simp only [Bool.and_eq_true, decide_eq_true_eq, and_assoc]
theorem has_one {rows cols : Nat} {i j : Int} : hasB rows cols (one i j) = true ↔ 0 ≤ i ∧ i < rows ∧ 0 ≤ j ∧ j < cols := by
  rw [hasB_iff]; unfold one; simp only; omega
theorem ovB_iff : ∀ {t p : List S49}, ovB p t = false ↔ (t.Pairwise fun q r => ¬ Mt q r) ∧ ∀ q ∈ p, ∀ r ∈ t, ¬ Mt q r
  | [], p => by simp [ovB]
  | r :: t, p => by
      rw [ovB, Bool.or_eq_false_iff, ovB_iff, List.any_eq_false, List.pairwise_cons]
      simp only [decide_eq_true_eq, List.mem_append, List.mem_cons, List.not_mem_nil, or_false]
      constructor
      · rintro ⟨h1, h2, h3⟩
        refine ⟨⟨fun q hq => h3 r (.inr rfl) q hq, h2⟩, fun q hq x hx => ?_⟩
        rcases hx with hx | hx
        · subst hx; exact h1 q hq
        · exact h3 q (.inl hq) x hx
      · rintro ⟨⟨h1, h2⟩, h3⟩
        refine ⟨fun q hq => h3 q hq r (.inl rfl), h2, fun q hq x hx => ?_⟩
        rcases hq with hq | hq
        · exact h3 q hq x (.inr hx)
        · subst hq; exact h1 x hx
theorem lim_iff {s : Sh} : limB s = true ↔ (∀ c ∈ s.ce, c.f2.size ≤ 1024) ∧ (s.wd.length ≤ 16 ∧ ∀ n ∈ s.wd, n ≤ 60) ∧ (s.ht.length ≤ 24 ∧ ∀ n ∈ s.ht, n ≤ 12) ∧ s.me.length ≤ 12 := by
  unfold limB
  simp only [Bool.and_eq_true, Bool.not_eq_true', ovr_iff, List.any_eq_false, decide_eq_true_eq, Nat.not_lt, and_assoc]
theorem ord_iff {s : Sh} : ordB s = true ↔ (0 ≤ s.rt ∧ s.rt ≤ 1) ∧ (s.wd ≠ [] ∧ ∀ n ∈ s.wd, 1 ≤ n) ∧ (s.ht ≠ [] ∧ ∀ n ∈ s.ht, 1 ≤ n) ∧ s.ce.Pairwise LtC ∧ s.me.Pairwise LtR ∧
    (∀ c ∈ s.ce, Stl c.f3 ∧ ¬ Nil c) ∧ ∀ r ∈ s.me, 1 ≤ r.f2 ∧ 1 ≤ r.f3 ∧ ¬ (r.f2 = 1 ∧ r.f3 = 1) := by
  unfold ordB
  simp only [Bool.and_eq_true, Bool.not_eq_true', siz_iff, chn_iff LtC.tr, chn_iff LtR.tr, List.any_eq_false, Bool.not_eq_true, badC_iff, smlR_iff, decide_eq_true_eq, and_assoc]
theorem out_iff {s : Sh} : outB s = false ↔ (∀ c ∈ s.ce, 0 ≤ c.f0 ∧ c.f0 < s.ht.length ∧ 0 ≤ c.f1 ∧ c.f1 < s.wd.length) ∧
    ∀ r ∈ s.me, 0 ≤ r.f0 ∧ 0 ≤ r.f1 ∧ r.f2 ≤ s.ht.length ∧ r.f3 ≤ s.wd.length ∧ r.f0 ≤ s.ht.length - r.f2 ∧ r.f1 ≤ s.wd.length - r.f3 := by
  unfold outB
  simp only [Bool.or_eq_false_iff, List.any_eq_false, Bool.not_eq_true', Bool.not_eq_false, hasB_iff]
  unfold one; simp only
  refine and_congr (forall_congr' fun c => forall_congr' fun _ => ?_) Iff.rfl
  omega
theorem und_iff {s : Sh} : undB s = false ↔ ∀ c ∈ s.ce, c.f0 = (aro s.me c.f0 c.f1).f0 ∧ c.f1 = (aro s.me c.f0 c.f1).f1 := by
  unfold undB
  simp only [List.any_eq_false, Bool.not_eq_true', Bool.not_eq_false, Bool.and_eq_true, decide_eq_true_eq]
/-- a merge that covers a cell is its region -/
theorem aro_cov {me : List S49} (h1 : ∀ r ∈ me, 1 ≤ r.f2 ∧ 1 ≤ r.f3) (hM : ∀ q ∈ me, ∀ r ∈ me, Mt q r → q = r) {i j : Int} {r : S49} (hr : r ∈ me) (hc : Cov r i j) :
    aro me i j = r := by
  unfold aro
  cases hf : me.find? (fun r => decide (Mt r (one i j))) with
  | none =>
      have := List.find?_eq_none.mp hf r hr
      simp only [decide_eq_true_eq] at this
      exact absurd ((mt_one (h1 r hr).1 (h1 r hr).2).mpr hc).symm this
  | some q =>
      have hq := List.mem_of_find?_eq_some hf
      have hp := List.find?_some hf
      simp only [decide_eq_true_eq] at hp
      have cq := (mt_one (h1 q hq).1 (h1 q hq).2).mp hp.symm
      refine hM q hq r hr ?_
      have := h1 q hq; have := h1 r hr
      unfold Mt Shr Cov at *
      omega
theorem aro_none {me : List S49} (h1 : ∀ r ∈ me, 1 ≤ r.f2 ∧ 1 ≤ r.f3) {i j : Int} (h : ∀ r ∈ me, ¬ Cov r i j) : aro me i j = one i j := by
  unfold aro
  rw [List.find?_eq_none.mpr]
  · rfl
  · intro r hr
    simp only [decide_eq_true_eq]
    intro k
    exact h r hr ((mt_one (h1 r hr).1 (h1 r hr).2).mp k.symm)
theorem pair_iff {l : List S49} (hS : l.Pairwise LtR) : (l.Pairwise fun q r => ¬ Mt q r) ↔ ∀ q ∈ l, ∀ r ∈ l, Mt q r → q = r := by
  induction l with
  | nil => simp
  | cons a l ih =>
      rw [List.pairwise_cons] at hS
      rw [List.pairwise_cons, ih hS.2]
      constructor
      · rintro ⟨h1, h2⟩ q hq r hr k
        rcases List.mem_cons.mp hq with hq1 | hq1 <;> rcases List.mem_cons.mp hr with hr1 | hr1
        · rw [hq1, hr1]
        · subst hq1; exact absurd k (h1 r hr1)
        · subst hr1; exact absurd k.symm (h1 q hq1)
        · exact h2 q hq1 r hr1 k
      · intro h
        refine ⟨fun r hr k => ?_, fun q hq r hr k => h q (List.mem_cons_of_mem _ hq) r (List.mem_cons_of_mem _ hr) k⟩
        have := h a (List.mem_cons_self ..) r (List.mem_cons_of_mem _ hr) k
        subst this
        exact LtR.irr _ (hS.1 a hr)
abbrev OkS := Ok 24 12 16 60
theorem chk_iff {s : Sh} : chk s = 0 ↔ OkS s := by
  unfold chk
  constructor
  · intro h
    split at h; · omega
    split at h; · omega
    split at h; · omega
    split at h; · omega
    split at h; · omega
    rename_i h1 h2 h3 h4 h5
    rw [Bool.not_eq_false] at h1 h2
    rw [Bool.not_eq_true] at h3 h4 h5
    rw [lim_iff] at h1; rw [ord_iff] at h2; rw [out_iff] at h3; rw [ovB_iff] at h4; rw [und_iff] at h5
    obtain ⟨a1, ⟨a2, a3⟩, ⟨a4, a5⟩, a6⟩ := h1
    obtain ⟨b1, ⟨b2, b3⟩, ⟨b4, b5⟩, b6, b7, b8, b9⟩ := h2
    obtain ⟨c1, c2⟩ := h3
    have hM := (pair_iff b7).mp h4.1
    refine ⟨by omega, b4, a4, fun x hx => ⟨b5 x hx, a5 x hx⟩, b2, a2, fun x hx => ⟨b3 x hx, a3 x hx⟩, b6, ?_, b7, ?_, a6, hM, ?_⟩
    · intro c hc
      have := c1 c hc
      exact ⟨a1 c hc, (b8 c hc).1, (b8 c hc).2, this.1, this.2.1, this.2.2.1, this.2.2.2⟩
    · intro r hr
      have := c2 r hr; have := b9 r hr
      exact ⟨this.1, this.2.1, this.2.2, by omega, by omega, by omega, by omega⟩
    · intro c hc r hr hv
      have := h5 c hc
      rw [aro_cov (fun r hr => ⟨(b9 r hr).1, (b9 r hr).2.1⟩) hM hr hv] at this
      exact ⟨this.1.symm, this.2.symm⟩
  · intro h
    have h1 : limB s = true := lim_iff.mpr ⟨fun c hc => (h.ceE c hc).tx, ⟨h.wdn, fun n hn => (h.wde n hn).2⟩, ⟨h.htn, fun n hn => (h.hte n hn).2⟩, h.men⟩
    have h2 : ordB s = true := ord_iff.mpr ⟨by have := h.rt; omega, ⟨h.wd0, fun n hn => (h.wde n hn).1⟩, ⟨h.ht0, fun n hn => (h.hte n hn).1⟩, h.ceS, h.meS,
      fun c hc => ⟨(h.ceE c hc).st, (h.ceE c hc).nn⟩, fun r hr => ⟨(h.meE r hr).m, (h.meE r hr).n, (h.meE r hr).big⟩⟩
    have h3 : outB s = false := out_iff.mpr ⟨fun c hc => by have := h.ceE c hc; exact ⟨this.r0, this.r1, this.c0, this.c1⟩,
      fun r hr => by obtain ⟨b1, b2, b3, b4, b5, b6, b7⟩ := h.meE r hr; omega⟩
    have h4 : ovB [] s.me = false := ovB_iff.mpr ⟨(pair_iff h.meS).mpr h.meM, by simp⟩
    have h5 : undB s = false := und_iff.mpr fun c hc => by
      rcases Classical.em (∃ r ∈ s.me, Cov r c.f0 c.f1) with ⟨r, hr, hv⟩ | k
      · rw [aro_cov (fun r hr => ⟨(h.meE r hr).m, (h.meE r hr).n⟩) h.meM hr hv]
        have := h.un c hc r hr hv
        exact ⟨this.1.symm, this.2.symm⟩
      · rw [aro_none (fun r hr => ⟨(h.meE r hr).m, (h.meE r hr).n⟩) fun r hr hv => k ⟨r, hr, hv⟩]
        exact ⟨rfl, rfl⟩
    simp [h1, h2, h3, h4, h5]
/-! ## what stands in a cell -/
open PE (z49 z31 z44)
def reg (s : Sh) (i j : Int) : S49 × Int :=
  if chk s ≠ 0 then (z49, 1) else if hasB s.ht.length s.wd.length (one i j) = false then (z49, 4) else (aro s.me i j, 0)
def atK (l : List S44) (r : S49) : S44 := (l.find? fun c => decide (c.f0 = r.f0) && decide (c.f1 = r.f1)).getD ⟨r.f0, r.f1, ByteArray.empty, z31⟩
def get (s : Sh) (i j : Int) : S44 × Int :=
  if (reg s i j).2 ≠ 0 then (z44, (reg s i j).2) else (atK s.ce (reg s i j).1, 0)
theorem reg_ok {s : Sh} (h : OkS s) {i j : Int} (i0 : 0 ≤ i) (i1 : i < s.ht.length) (j0 : 0 ≤ j) (j1 : j < s.wd.length) : reg s i j = (aro s.me i j, 0) := by
  unfold reg
  rw [if_neg (by rw [chk_iff.mpr h]; decide), if_neg (by rw [has_one.mpr ⟨i0, i1, j0, j1⟩]; decide)]
theorem reg_zero {s : Sh} {i j : Int} (h : (reg s i j).2 = 0) : OkS s ∧ 0 ≤ i ∧ i < s.ht.length ∧ 0 ≤ j ∧ j < s.wd.length := by
  unfold reg at h
  split at h; · simp at h
  split at h; · simp at h
  rename_i h1 h2
  rw [Bool.not_eq_false] at h2
  exact ⟨chk_iff.mp (by simpa using h1), has_one.mp h2⟩
theorem get_ok {s : Sh} (h : OkS s) {i j : Int} (i0 : 0 ≤ i) (i1 : i < s.ht.length) (j0 : 0 ≤ j) (j1 : j < s.wd.length) : get s i j = (atK s.ce (aro s.me i j), 0) := by
  unfold get
  rw [reg_ok h i0 i1 j0 j1]; simp
/-- in a rising row a member is found by its key -/
theorem find_mem {l : List S44} (hS : l.Pairwise LtC) {c : S44} (hc : c ∈ l) {i j : Int} (h0 : c.f0 = i) (h1 : c.f1 = j) :
    l.find? (fun c => decide (c.f0 = i) && decide (c.f1 = j)) = some c := by
  induction l with
  | nil => simp at hc
  | cons a l ih =>
      rw [List.pairwise_cons] at hS
      rw [List.find?_cons]
      rcases List.mem_cons.mp hc with rfl | hc
      · simp [h0, h1]
      · have k := hS.1 c hc
        have : (decide (a.f0 = i) && decide (a.f1 = j)) = false := by
          rw [Bool.and_eq_false_iff]; simp only [decide_eq_false_iff_not]; unfold LtC at k; omega
        rw [this]
        exact ih hS.2 hc
theorem empty_of_size {a : ByteArray} (h : a.size = 0) : a = ByteArray.empty := by
  cases a with
  | mk d => 
      have : d.size = 0 := h
      congr 1
      exact Array.eq_empty_of_size_eq_zero this
theorem find_ext {l m : List S44} {i j : Int} (hl : l.Pairwise LtC) (hm : m.Pairwise LtC) (h : ∀ x : S44, x.f0 = i → x.f1 = j → (x ∈ l ↔ x ∈ m)) :
    l.find? (fun c => decide (c.f0 = i) && decide (c.f1 = j)) = m.find? (fun c => decide (c.f0 = i) && decide (c.f1 = j)) := by
  cases hf : m.find? (fun c => decide (c.f0 = i) && decide (c.f1 = j)) with
  | none =>
      rw [List.find?_eq_none] at hf ⊢
      intro x hx k
      have k' := k
      simp only [Bool.and_eq_true, decide_eq_true_eq] at k'
      exact hf x ((h x k'.1 k'.2).mp hx) k
  | some y =>
      have hy := List.mem_of_find?_eq_some hf
      have k := List.find?_some hf
      simp only [Bool.and_eq_true, decide_eq_true_eq] at k
      exact find_mem hl ((h y k.1 k.2).mpr hy) k.1 k.2
/-- what stands where a cell is laid, and elsewhere -/
theorem atK_lay {l : List S44} (hl : l.Pairwise LtC) {c : S44} {r : S49} :
    atK (lay c l) r = if r.f0 = c.f0 ∧ r.f1 = c.f1 then c else atK l r := by
  split
  · rename_i k
    unfold atK
    rcases Classical.em (Nil c) with hn | hn
    · rw [List.find?_eq_none.mpr]
      · obtain ⟨c0, c1, c2, c3, c4, c5⟩ := c
        obtain ⟨n1, n2, n3, n4⟩ := hn
        simp only at n1 n2 n3 n4 k
        rw [k.1, k.2, empty_of_size n1, n2, n3, n4]; rfl
      · intro x hx hk
        simp only [Bool.and_eq_true, decide_eq_true_eq] at hk
        rcases mem_lay.mp hx with ⟨_, hx⟩ | ⟨_, hx⟩
        · unfold LtC at hx; omega
        · exact hx hn
    · rw [find_mem (lay_rise hl) (mem_lay.mpr (.inr ⟨rfl, hn⟩)) k.1.symm k.2.symm]; rfl
  · rename_i k
    unfold atK
    rw [find_ext (lay_rise hl) hl]
    intro x h0 h1
    rw [mem_lay]
    constructor
    · rintro (h | h)
      · exact h.1
      · exfalso; apply k; rw [← h.1]; exact ⟨h0.symm, h1.symm⟩
    · intro h
      refine .inl ⟨h, ?_⟩
      unfold LtC; omega
end Go.Proofs.YtcofacgdijjnoaaGreat
end
section
namespace Go.Proofs.YtcofacgdijjnoaaGreat
open PE (S31 S44 S49 k44 k49 k31)
open Go.RowKit Go.Shelf Go.Lib Go.Proofs.YtcofacgdijjnoaaGreatW.PrintWords Go.Proofs.YtcofacgdijjnoaaGreatW.PrintLast Go.Proofs.YtcofacgdijjnoaaGreatW.PrintMore
set_option linter.unusedVariables false
set_option linter.unusedSimpArgs false
/-- a number of 64 bits -/
def W6 (n : Int) : Prop := -9223372036854775808 ≤ n ∧ n ≤ 9223372036854775807
instance (n : Int) : Decidable (W6 n) := by unfold W6; infer_instance
def WC (c : S44) : Prop := W6 c.f0 ∧ W6 c.f1
def WR (r : S49) : Prop := W6 r.f0 ∧ W6 r.f1 ∧ W6 r.f2 ∧ W6 r.f3
instance (c : S44) : Decidable (WC c) := by unfold WC; infer_instance
instance (c : S49) : Decidable (WR c) := by unfold WR; infer_instance
instance (a m b n : Int) : Decidable (Shr a m b n) := by unfold Shr; infer_instance
theorem shr_f {a m b n : Int} (ha : W6 a) (hm : W6 m) (hb : W6 b) (hn : W6 n) : PE.sheet_share.f 1 a m b n = some (decide (Shr a m b n)) := by
  unfold W6 at *
  unfold PE.sheet_share.f PE.sheet_share.j0
  have u1 : ∀ x : Int, IntKind.u64.wrap x = x % 18446744073709551616 := fun x => by
    simp [IntKind.wrap, IntKind.signed, IntKind.bits]
  simp only [u1]
  have hS : Shr a m b n ↔ (1 ≤ m ∧ 1 ≤ n ∧ a < b + n ∧ b < a + m) := Iff.rfl
  by_cases h1 : m < 1
  · simp only [if_pos h1, if_true]
    rw [decide_eq_false (by rw [hS]; omega)]
  · simp only [if_neg h1]
    by_cases h2 : n < 1
    · simp only [decide_eq_true h2, if_true]
      rw [decide_eq_false (by rw [hS]; omega)]
    · simp only [decide_eq_false h2, Bool.false_eq_true, if_false]
      by_cases h3 : a > b
      · simp only [if_pos h3]
        exact congrArg some (decide_eq_decide.mpr (by rw [hS]; omega))
      · simp only [if_neg h3]
        exact congrArg some (decide_eq_decide.mpr (by rw [hS]; omega))
theorem meet_f {q r : S49} (hq : WR q) (hr : WR r) : PE.sheet_Meet.f 1 q.f0 q.f1 q.f2 q.f3 r.f0 r.f1 r.f2 r.f3 = some (decide (Mt q r)) := by
  unfold PE.sheet_Meet.f
  rw [shr_f hq.1 hq.2.2.1 hr.1 hr.2.2.1, shr_f hq.2.1 hq.2.2.2 hr.2.1 hr.2.2.2]
  unfold Mt
  by_cases h : Shr q.f0 q.f2 r.f0 r.f2 <;> simp [h]
theorem meet_any {q r : S49} (hq : WR q) (hr : WR r) (w : World) : Calls Tryz.prog 29 #[.agg (encR q).toArray, .agg (encR r).toArray] w fun e w' => e = .returned (.bool (decide (Mt q r))) ∧ Below w.heap.size w w' :=
  PE.sheet_Meet.calls 1 _ _ _ _ _ _ _ _ _ w (meet_f hq hr)
theorem one_any (i j : Int) (w : World) : Calls Tryz.prog 25 #[.int .i64 i, .int .i64 j] w fun e w' => e = .returned (.agg (encR (one i j)).toArray) ∧ Below w.heap.size w w' := by
  exact PE.sheet_one.calls i j _ _ _ _ w rfl
end Go.Proofs.YtcofacgdijjnoaaGreat
end
section
namespace Go.Proofs.YtcofacgdijjnoaaGreat
open PE (S31 S44 S49 k44 k49 k31)
open Go.RowKit Go.Shelf Go.Lib Go.Proofs.YtcofacgdijjnoaaGreatW.PrintWords Go.Proofs.YtcofacgdijjnoaaGreatW.PrintLast Go.Proofs.YtcofacgdijjnoaaGreatW.PrintMore
set_option linter.unusedVariables false
set_option linter.unusedSimpArgs false
/-- where a sheet's four rows stand -/
structure SV where
  A1 : Option Addr
  c1 : Nat
  A2 : Option Addr
  c2 : Nat
  A3 : Option Addr
  c3 : Nat
  A4 : Option Addr
  c4 : Nat
/-- a sheet's five values -/
def shv (V : SV) (s : Sh) : Array Value := #[.int .i64 s.rt, .slice V.A1 s.wd.length V.c1, .slice V.A2 s.ht.length V.c2, .slice V.A3 s.ce.length V.c3, .slice V.A4 s.me.length V.c4]
structure Rd (w : World) (V : SV) (s : Sh) : Prop where
  h1 : Kd.C (Kd.int .i64) w V.A1 s.wd.length s.wd
  l1 : s.wd.length ≤ V.c1
  h2 : Kd.C (Kd.int .i64) w V.A2 s.ht.length s.ht
  l2 : s.ht.length ≤ V.c2
  h3 : Kd.C k44 w V.A3 s.ce.length s.ce
  l3 : s.ce.length ≤ V.c3
  h4 : Kd.C k49 w V.A4 s.me.length s.me
  l4 : s.me.length ≤ V.c4
theorem Rd.below {w W : World} {V : SV} {s : Sh} (h : Rd w V s) (hb : Below w.heap.size w W) : Rd W V s :=
  ⟨Kd.C_below h.h1 hb, h.l1, Kd.C_below h.h2 hb, h.l2, Kd.C_below h.h3 hb, h.l3, Kd.C_below h.h4 hb, h.l4⟩
theorem has_any {w : World} {V : SV} {s : Sh} (h : Rd w V s) (r : S49) (m : 0 ≤ r.f2) (n : 0 ≤ r.f3) :
    Calls Tryz.prog 24 #[.agg (shv V s), .agg (encR r).toArray] w fun e w' => e = .returned (.bool (hasB s.ht.length s.wd.length r)) ∧ Below w.heap.size w w' := by
  have h1 := h.h1.2.1; have h2 := h.h2.2.1
  refine PE.sheet_has.calls s.rt V.A1 V.c1 s.wd V.A2 V.c2 s.ht V.A3 V.c3 s.ce V.A4 V.c4 s.me r.f0 r.f1 r.f2 r.f3 _ w h.h1 h.l1 h.h2 h.l2 h.h3 h.l3 h.h4 h.l4 ?_
  unfold PE.sheet_has.f hasB
  have w1 : r.f2 ≤ (s.ht.length : Int) → wrap64 ((s.ht.length : Int) - r.f2) = (s.ht.length : Int) - r.f2 := fun k => by unfold wrap64; omega
  have w2 : r.f3 ≤ (s.wd.length : Int) → wrap64 ((s.wd.length : Int) - r.f3) = (s.wd.length : Int) - r.f3 := fun k => by unfold wrap64; omega
  by_cases a1 : r.f0 ≥ 0
  · rw [if_pos a1]
    by_cases a2 : r.f1 ≥ 0
    · rw [if_pos a2]
      by_cases a3 : r.f2 ≤ (s.ht.length : Int)
      · rw [if_pos a3]
        by_cases a4 : r.f3 ≤ (s.wd.length : Int)
        · rw [if_pos a4, w1 a3, w2 a4]
          by_cases a5 : r.f0 ≤ (s.ht.length : Int) - r.f2
          · rw [if_pos a5]; simp [a1, a2, a3, a4, a5]
          · rw [if_neg a5]; simp [a5]
        · rw [if_neg a4]; simp [a4]
      · rw [if_neg a3]; simp [a3]
    · rw [if_neg a2]; simp [a2]
  · rw [if_neg a1]; simp [a1]
theorem five {w : World} {B : Nat} {V : SV} {s : Sh} (h : w.heap[B]? = some (.cells (shv V s) 26 (0, 0))) :
    w.cell? ⟨B, 0, none⟩ = some (.int .i64 s.rt) ∧ w.cell? ⟨B, 1, none⟩ = some (.slice V.A1 s.wd.length V.c1) ∧ w.cell? ⟨B, 2, none⟩ = some (.slice V.A2 s.ht.length V.c2) ∧
    w.cell? ⟨B, 3, none⟩ = some (.slice V.A3 s.ce.length V.c3) ∧ w.cell? ⟨B, 4, none⟩ = some (.slice V.A4 s.me.length V.c4) :=
  ⟨blk_cell h 0, blk_cell h 1, blk_cell h 2, blk_cell h 3, blk_cell h 4⟩
set_option maxRecDepth 100000 in
set_option maxHeartbeats 2000000 in
/-- Check's first test: a cell that stands outside -/
theorem t23 {w : World} {V : SV} {s : Sh} (h : Rd w V s) (B : Nat) (hB : w.heap[B]? = some (.cells (shv V s) 26 (0, 0))) (l : List S44) :
    Tells 23 #[.pointer (some ⟨B, 0, none⟩)] (fun x => .agg (encC x).toArray) (fun c => !hasB s.ht.length s.wd.length (one c.f0 c.f1)) l w := by
  intro W x hx hb
  have hR := h.below hb
  have hBW := blk_below hB hb
  have hp := fun w' (hb' : Below W.heap.size W w') => has_any (hR.below hb') (one x.f0 x.f1) (by show (0:Int) ≤ 1; decide) (by show (0:Int) ≤ 1; decide)
  obtain ⟨A1, c1, A2, c2, A3, c3, A4, c4⟩ := V
  obtain ⟨rt, wd, ht, ce, me⟩ := s
  have HP := Lib.hid hp
  have H1 := Lib.hid (one_any x.f0 x.f1)
  clear hp h hB hb hR hx
  show Calls Tryz.prog 23 #[.agg #[.int .i64 x.f0, .int .i64 x.f1, .string x.f2, .int .i64 x.f3.f0, .int .i64 x.f3.f1, .int .i64 x.f3.f2], .pointer (some ⟨B, 0, none⟩)] W _
  have hb1 := blk_alloc hBW (Obj.cells #[.int .i64 x.f0, .int .i64 x.f1, .string x.f2, .int .i64 x.f3.f0, .int .i64 x.f3.f1, .int .i64 x.f3.f2] 44 (0, 0))
  obtain ⟨k0, k1, k2, k3, k4⟩ := five hb1
  have hn := blk_new W (Obj.cells #[.int .i64 x.f0, .int .i64 x.f1, .string x.f2, .int .i64 x.f3.f0, .int .i64 x.f3.f1, .int .i64 x.f3.f2] 44 (0, 0))
  have m0 := blk_cell hn 0
  have m1 := blk_cell hn 1
  have HB := Lib.hid (below_alloc (Below.refl W.heap.size W) (Obj.cells #[.int .i64 x.f0, .int .i64 x.f1, .string x.f2, .int .i64 x.f3.f0, .int .i64 x.f3.f1, .int .i64 x.f3.f2] 44 (0, 0)))
  have HK := Lib.hid hb1
  clear hb1 hn hBW
  go_enter Tryz.func23, Tryz.ntmps23
  go_wp2
  obtain ⟨W0, hW0⟩ : ∃ W0, W0 = W.alloc (Obj.cells #[.int .i64 x.f0, .int .i64 x.f1, .string x.f2, .int .i64 x.f3.f0, .int .i64 x.f3.f1, .int .i64 x.f3.f2] 44 (0, 0)) := ⟨_, rfl⟩
  rw [← hW0] at k0 k1 k2 k3 k4 m0 m1 HB HK ⊢
  clear hW0
  have KS : ∀ w', Below W0.heap.size W0 w' → (w'.cell? ⟨B, 0, none⟩ = some (.int .i64 rt) ∧ w'.cell? ⟨B, 1, none⟩ = some (.slice A1 wd.length c1) ∧ w'.cell? ⟨B, 2, none⟩ = some (.slice A2 ht.length c2) ∧
      w'.cell? ⟨B, 3, none⟩ = some (.slice A3 ce.length c3) ∧ w'.cell? ⟨B, 4, none⟩ = some (.slice A4 me.length c4) ∧ w'.cell? ⟨W.heap.size, 0, none⟩ = some (.int .i64 x.f0) ∧ w'.cell? ⟨W.heap.size, 1, none⟩ = some (.int .i64 x.f1) ∧ Below W0.heap.size W0 w') := fun w' hb =>
    ⟨pw_cell_below hb k0, pw_cell_below hb k1, pw_cell_below hb k2, pw_cell_below hb k3, pw_cell_below hb k4, pw_cell_below hb m0, pw_cell_below hb m1, hb⟩
  have HKS := Lib.hid KS
  clear KS
  go_region_held3 (fun w' => (w'.cell? ⟨B, 0, none⟩ = some (.int .i64 rt) ∧ w'.cell? ⟨B, 1, none⟩ = some (.slice A1 wd.length c1) ∧ w'.cell? ⟨B, 2, none⟩ = some (.slice A2 ht.length c2) ∧
      w'.cell? ⟨B, 3, none⟩ = some (.slice A3 ce.length c3) ∧ w'.cell? ⟨B, 4, none⟩ = some (.slice A4 me.length c4) ∧ w'.cell? ⟨W.heap.size, 0, none⟩ = some (.int .i64 x.f0) ∧ w'.cell? ⟨W.heap.size, 1, none⟩ = some (.int .i64 x.f1) ∧ Below W0.heap.size W0 w'))
    (first
      | exact HKS.out _ (Below.refl _ _)
      | exact HKS.out _ (below_drew (Below.refl _ _))
      | (go_split_ands; exact HKS.out _ (below_then (by assumption) (Below.size (by assumption)) hbn))
      | (go_split_ands; exact HKS.out _ (below_drew (by assumption))))
    (first
      | (go_at_call 25; refine (H1.out _).mono ?_; rintro e w1 ⟨rfl, hbn⟩)
      | (go_at_call 24; go_split_ands; refine (HP.out _ (below_then HB.out HB.out.size (by assumption))).mono ?_; rintro e w1 ⟨rfl, hbn⟩))
  go_split_ands
  go_wp2
  go_ret
  exact ⟨rfl, below_then HB.out HB.out.size (by assumption)⟩
end Go.Proofs.YtcofacgdijjnoaaGreat
end
section
namespace Go.Proofs.YtcofacgdijjnoaaGreat
open PE (S31 S44 S49 k44 k49 k31)
open Go.RowKit Go.Shelf Go.Lib Go.Proofs.YtcofacgdijjnoaaGreatW.PrintWords Go.Proofs.YtcofacgdijjnoaaGreatW.PrintLast Go.Proofs.YtcofacgdijjnoaaGreatW.PrintMore
set_option linter.unusedVariables false
set_option linter.unusedSimpArgs false
set_option maxRecDepth 100000
set_option maxHeartbeats 2000000
theorem four {w : World} {B : Nat} {r : S49} (h : w.heap[B]? = some (.cells (encR r).toArray 49 (0, 0))) :
    w.cell? ⟨B, 0, none⟩ = some (.int .i64 r.f0) ∧ w.cell? ⟨B, 1, none⟩ = some (.int .i64 r.f1) ∧ w.cell? ⟨B, 2, none⟩ = some (.int .i64 r.f2) ∧ w.cell? ⟨B, 3, none⟩ = some (.int .i64 r.f3) :=
  ⟨blk_cell h 0, blk_cell h 1, blk_cell h 2, blk_cell h 3⟩
theorem t50 (l : List S44) (w : World) : Tells 50 #[] (fun x => .agg (encC x).toArray) (fun c => decide (1024 < c.f2.size)) l w := by
  intro W x hx hb
  show Calls Tryz.prog 50 #[.agg #[.int .i64 x.f0, .int .i64 x.f1, .string x.f2, .int .i64 x.f3.f0, .int .i64 x.f3.f1, .int .i64 x.f3.f2]] W _
  have HB := Lib.hid (below_alloc (Below.refl W.heap.size W) (Obj.cells #[.int .i64 x.f0, .int .i64 x.f1, .string x.f2, .int .i64 x.f3.f0, .int .i64 x.f3.f1, .int .i64 x.f3.f2] 44 (0, 0)))
  clear hb hx
  go_enter Tryz.func50, Tryz.ntmps50
  go_wp2
  go_ret
  refine ⟨congrArg (fun b => Ending.returned (.bool b)) (decide_eq_decide.mpr ?_), HB.out⟩
  omega
theorem t76 (l : List Int) (w : World) (B : Nat) (m : Int) (hB : w.cell? ⟨B, 0, none⟩ = some (.int .i64 m)) : Tells 76 #[.pointer (some ⟨B, 0, none⟩)] (fun x => .int .i64 x) (fun n => decide (m < n)) l w := by
  intro W x hx hb
  show Calls Tryz.prog 76 #[.int .i64 x, .pointer (some ⟨B, 0, none⟩)] W _
  have hc := pw_cell_below hb hB
  clear hb hx hB
  go_enter Tryz.func76, Tryz.ntmps76
  go_wp2
  go_ret
  exact ⟨rfl, Below.refl _ _⟩
theorem t57 (l : List S49) (w : World) : Tells 57 #[] (fun x => .agg (encR x).toArray) smlR l w := by
  intro W x hx hb
  show Calls Tryz.prog 57 #[.agg #[.int .i64 x.f0, .int .i64 x.f1, .int .i64 x.f2, .int .i64 x.f3]] W _
  have HB := Lib.hid (below_alloc (Below.refl W.heap.size W) (Obj.cells #[.int .i64 x.f0, .int .i64 x.f1, .int .i64 x.f2, .int .i64 x.f3] 49 (0, 0)))
  clear hb hx
  have HS := Lib.hid (show smlR x = (decide (x.f2 < 1) || decide (x.f3 < 1) || (decide (x.f2 = 1) && decide (x.f3 = 1))) from rfl)
  by_cases h1 : x.f2 < 1
  · have b1 : decide (x.f2 < 1) = true := decide_eq_true h1
    go_enter Tryz.func57, Tryz.ntmps57
    go_wp2
    go_ret
    exact ⟨by rw [HS.out, b1]; rfl, HB.out⟩
  · have b1 : decide (x.f2 < 1) = false := decide_eq_false h1
    by_cases h2 : x.f3 < 1
    · have b2 : decide (x.f3 < 1) = true := decide_eq_true h2
      go_enter Tryz.func57, Tryz.ntmps57
      go_wp2
      go_ret
      exact ⟨by rw [HS.out, b1, b2]; rfl, HB.out⟩
    · have b2 : decide (x.f3 < 1) = false := decide_eq_false h2
      by_cases h3 : x.f2 = 1
      · have b3 : (x.f2 == 1) = true := by simpa using h3
        go_enter Tryz.func57, Tryz.ntmps57
        go_wp2
        go_ret
        exact ⟨by rw [HS.out, b1, b2, decide_eq_true h3]; exact congrArg (fun b => Ending.returned (.bool b)) (by simp [Bool.beq_eq_decide_eq]), below_alloc (Below.refl _ _) _⟩
      · have b3 : (x.f2 == 1) = false := by simpa using h3
        go_enter Tryz.func57, Tryz.ntmps57
        go_wp2
        go_ret
        exact ⟨by rw [HS.out, b1, b2, decide_eq_false h3]; rfl, HB.out⟩
theorem t28 {l : List S49} {w : World} {B : Nat} {r : S49} (hB : w.heap[B]? = some (.cells (encR r).toArray 49 (0, 0))) (hr : WR r) (hl : ∀ q ∈ l, WR q) :
    Tells 28 #[.pointer (some ⟨B, 0, none⟩)] (fun x => .agg (encR x).toArray) (fun q => decide (Mt q r)) l w := by
  intro W x hx hb
  have H := Lib.hid (fun w' => meet_any (hl x hx) hr w')
  show Calls Tryz.prog 28 #[.agg #[.int .i64 x.f0, .int .i64 x.f1, .int .i64 x.f2, .int .i64 x.f3], .pointer (some ⟨B, 0, none⟩)] W _
  have hBW := blk_below hB hb
  obtain ⟨k0, k1, k2, k3⟩ := four (blk_alloc hBW (Obj.cells #[.int .i64 x.f0, .int .i64 x.f1, .int .i64 x.f2, .int .i64 x.f3] 49 (0, 0)))
  have HA := Lib.hid (below_alloc (Below.refl W.heap.size W) (Obj.cells #[.int .i64 x.f0, .int .i64 x.f1, .int .i64 x.f2, .int .i64 x.f3] 49 (0, 0)))
  clear hb hx hB hBW hl hr
  go_enter Tryz.func28, Tryz.ntmps28
  go_wp2_with (go_at_call 29; refine (H.out _).mono ?_; rintro e w1 ⟨rfl, hb1⟩)
  go_ret
  exact ⟨rfl, below_then HA.out HA.out.size hb1⟩
end Go.Proofs.YtcofacgdijjnoaaGreat
end
