/- class.Print, walked (as in the first seat). -/
import Derived.Test.YtdpifkhkemeclaaDoorCls
import Derived.Test.YtdpifkhkemeclaaDoorShelf
namespace Go.Proofs.YtdpifkhkemeclaaDoor
open Go.RowKit Go.Proofs.YtdpifkhkemeclaaDoorW.PrintWords
set_option linter.unusedVariables false
set_option linter.unusedSimpArgs false

/-- The name of a class. -/
def nameOf (c : Int) : ByteArray := nameL.getD c.toNat ByteArray.empty
def isClass (c : Int) : Bool := decide (0 ≤ c) && decide (c < 23)
def printL (l : List Int) : List UInt8 := Lib.join (l.map fun c => (nameOf c).data.toList) [32]
def class_Print.f (l0 : List Int) : Option (ByteArray × Bool) :=
  if l0.length ≤ 1048576 then some (if l0.all isClass then (⟨(printL l0).toArray⟩, true) else (⟨#[]⟩, false)) else none

theorem info9' : (Tryd.prog.info? 9).map (fun i => (i.zero, i.size, i.bytes)) = some (some (.string ByteArray.empty), 1, 16) := by kernel_rfl
theorem nameV_at (c : Nat) (h : c < 23) : nameV[c]? = some (.string (nameOf c)) := by
  have hl : c < nameL.length := h
  unfold nameV nameOf
  simp [hl]
theorem nameOf_len (c : Int) : (nameOf c).size ≤ 3 := by
  have h : ∀ x ∈ nameL, x.size ≤ 3 := by decide
  unfold nameOf
  rw [List.getD_eq_getElem?_getD]
  cases hx : nameL[c.toNat]? with
  | none => exact Nat.zero_le _
  | some x => exact h x (List.mem_of_getElem? hx)
theorem joinLen (l : List Int) (h : l.length ≤ 1048576) : (Lib.join (l.map fun c => (nameOf c).data.toList) [32]).length ≤ 140737488355328 := by
  have h2 : ∀ l : List Int, (Lib.join (l.map fun c => (nameOf c).data.toList) [32]).length ≤ 4 * l.length := by
    intro l
    unfold Lib.join
    induction l with
    | nil => simp
    | cons c r ih =>
      have hc := nameOf_len c
      have hc' : (nameOf c).data.toList.length ≤ 3 := hc
      cases r with
      | nil => simp only [List.map_cons, List.map_nil, List.intercalate_singleton, List.length_cons, List.length_nil]; omega
      | cons d r =>
        simp only [List.map_cons, List.intercalate_cons_cons, List.length_append, List.length_cons, List.length_nil] at ih ⊢
        omega
  have := h2 l
  omega
def strV (l : List Int) : List Value := l.map fun c => .string (nameOf c)

structure StP (w : World) (l0 : List Int) (k : Nat) (v : Value) (wr : World) : Prop where
  all : wr.heap[w.heap.size + 1]? = some (.cells nameV 69 (0, 0))
  own : wr.ownsRow (w.heap.size + 2) 9 1 v k (strV (l0.take k))
  bel : Below w.heap.size w wr
  siz : w.heap.size + 2 ≤ wr.heap.size

theorem stP_start (w : World) (l0 : List Int) : StP w l0 0 (.slice none 0 0) ((w.alloc (.cells nameV 69)).alloc (.cells nameV 69)) :=
  ⟨by have := heap_alloc_new (w.alloc (.cells nameV 69)) (.cells nameV 69); simpa using this, World.ownsRow_nil _ _ _ _, ((Below.refl _ _).alloc (Nat.le_refl _) _).alloc (by simp) _, by simp⟩

theorem take_getD (l : List Int) (k : Nat) (h : k < l.length) : l.take (k + 1) = l.take k ++ [l.getD k 0] := by
  rw [List.take_succ_eq_append_getElem h, List.getD_eq_getElem?_getD, List.getElem?_eq_getElem h]; rfl

theorem stP_step {w wr w1 : World} {l0 : List Int} {k : Nat} {v v' : Value} {c : Int} (hk : k < l0.length) (hc : c = l0.getD k 0) (h : StP w l0 k v wr) (o : Obj)
    (hown : w1.ownsRow (w.heap.size + 2) 9 1 v' (k + 1) (strV (l0.take k) ++ [.string (nameOf c)])) (hg : (wr.alloc o).grownBy w1 v.ownBlock) : StP w l0 (k + 1) v' w1 := by
  have hlt := h.siz
  have hsz : (wr.alloc o).heap.size = wr.heap.size + 1 := by simp
  refine ⟨?_, ?_, ?_, ?_⟩
  · rw [hg.block _ (by omega) (by intro e; have := h.own.lt _ e.symm; omega), heap_alloc_old _ _ (by omega)]
    exact h.all
  · rw [take_getD l0 k hk, ← hc]; simpa [strV] using hown
  · exact (h.bel.alloc (by omega) o).grown hg (by omega) (by intro j e; have := h.own.lt _ e; omega)
  · have := hg.size; omega

set_option maxRecDepth 100000 in
set_option maxHeartbeats 2000000 in
theorem class_Print.calls (A0 : Option Addr) (c0 : Nat) (l0 : List Int) (r1 : ByteArray) (r2 : Bool) (w : World) (hr0 : Kd.C (Kd.int .i64) w A0 l0.length l0) (hc0 : l0.length ≤ c0) (h : class_Print.f l0 = some (r1, r2)) :
    Calls Tryd.prog 36 #[.slice A0 l0.length c0] w fun e w' => e = .returned (.tuple #[.string r1, .bool r2]) ∧ Below w.heap.size w w' := by
  unfold class_Print.f at h
  by_cases hm : l0.length ≤ 1048576
  case neg => rw [if_neg hm] at h; cases h
  rw [if_pos hm] at h
  have h := Option.some.inj h
  have Hres := Lib.hid h
  clear h
  have HC := Aside0.mk hr0
  clear hr0 hc0
  have hst := stP_start w l0
  obtain ⟨i9, hi, hz0, hz1, hz2⟩ := info_parts info9'
  go_enter Tryd.func36, Tryd.ntmps36
  go_wp2_with (first
    | (go_at_call 50; refine (names_any _).mono ?_; rintro e w' ⟨rfl, rfl⟩)
    | (refine wpList_alloc69 rfl rfl ?_)
    | (refine wpList_store_row rfl 69 (.tmp 5) (.tmp 8) rfl (w.alloc (.cells nameV 69)).heap.size nameV rfl rfl 69 zeroV (heap_alloc_new _ _) size69 zs69 one69 ?_; rw [set_alloc]))
  go_loopg [4, 11] (l0.length + 1) (fun g v4 v11 wr => ∃ k : Nat, k ≤ l0.length ∧ g = l0.length + 1 - k ∧ v11 = .int .i64 k ∧ StP w l0 k v4 wr ∧ ((l0.take k).all isClass = true))
  case atStart => exact ⟨0, Nat.zero_le _, rfl, rfl, hst, rfl⟩
  case round =>
    clear hst
    obtain ⟨k, hk, hg, rfl, hS, hall⟩ := hrel
    have Hall := Lib.hid hall
    have Hg := Lib.hid hg
    clear hg hall
    by_cases hlt : k < l0.length
    · obtain ⟨ad, e, hc⟩ := Kd.at_int HC.out (k : Int) (by omega) (by omega)
      cases e
      have hc' : w.cell? (ad.add k) = some (.int .i64 (l0.getD k 0)) := by simpa [rd] using hc
      have hblk := World.block_lt_of_cell? w _ hc'
      obtain ⟨c, hcc⟩ : ∃ c, c = l0.getD k 0 := ⟨_, rfl⟩
      have hcx : wr.cell? (ad.add k) = some (.int .i64 c) := by rw [hS.bel.cell hblk, hcc]; exact hc'
      clear hc hc' hblk
      have hlt' : (k : Int) < (l0.length : Int) := by omega
      have Hcc := Lib.hid hcc
      clear hcc
      by_cases hl : isClass c = true
      · have hl2 : 0 ≤ c ∧ c < 23 := by simpa [isClass] using hl
        obtain ⟨cn, rfl⟩ := Int.eq_ofNat_of_zero_le hl2.1
        have hcn : cn < 23 := by omega
        have Hl := Lib.hid hl
        have t1 : decide ((cn : Int) < 0) = false := decide_eq_false (by omega)
        have t2 : ¬ ((cn : Int) < 0) := by omega
        have t3 : (cn : Int) < 23 := by omega
        have cx : wr.cell? ⟨w.heap.size + 1, cn, none⟩ = some (.string (nameOf cn)) := by rw [cell_of_row _ _ _ _ _ _ hS.all]; exact nameV_at cn hcn
        have hown := hS.own
        have hbs := hS.siz
        have HS := Lib.hid hS
        clear hl hl2 hS
        go_wp2_with (first
          | (at_builtin; refine wpList_append_own _ rfl _ _ 71 rfl (w.heap.size + 2) 9 i9 (.string ByteArray.empty) 1 16 Tryd.underlying71 hi hz0 hz1 hz2 rfl (by decide) _ _ _ rfl (hown.alloc _) ⟨wr.heap.size, 0, none⟩ 1 1 [.string (nameOf cn)] rfl rfl ?c1 ?c2 ?c3 ?c4 ?c5 ?_))
        case c2 => rfl
        case c3 => unfold maxLen; omega
        case c4 => omega
        case c5 => omega
        · intro v' w1 hown' hgrow _
          have R := stP_step (by omega) Hcc.out HS.out _ hown' hgrow
          have HR := Lib.hid R
          clear hown' hgrow hown R
          go_wp2
          go_roundg (l0.length + 1 - (k + 1))
          case measure => have := Hg.out; omega
          case rel => exact ⟨k + 1, by omega, rfl, by go_num, HR.out, by rw [take_getD l0 k hlt, List.all_append, Hall.out, ← Hcc.out]; simp [Hl.out]⟩
      · have hl2 : c < 0 ∨ 23 ≤ c := by
          by_cases h0 : c < 0
          · exact .inl h0
          · right; by_cases h1 : 23 ≤ c
            · exact h1
            · exact absurd (by simp [isClass]; omega) hl
        have hres : r1 = ⟨#[]⟩ ∧ r2 = false := by
          have hn : ¬ l0.all isClass = true := by
            intro ha
            rw [List.all_eq_true] at ha
            exact hl (by rw [Hcc.out, List.getD_eq_getElem?_getD, List.getElem?_eq_getElem hlt]; exact ha _ (List.getElem_mem hlt))
          have := Hres.out
          rw [if_neg hn] at this
          exact ⟨(congrArg Prod.fst this).symm, (congrArg Prod.snd this).symm⟩
        obtain ⟨rfl, rfl⟩ := hres
        have HS := Lib.hid hS
        clear hl hS
        rcases hl2 with h0 | h1
        · have t1 : decide (c < 0) = true := decide_eq_true h0
          go_wp2
          go_ret2
          exact ⟨rfl, HS.out.bel⟩
        · have t1 : decide (c < 0) = false := decide_eq_false (by omega)
          have t2 : ¬ c < 0 := by omega
          have t3 : ¬ c < 23 := by omega
          go_wp2
          go_ret2
          exact ⟨rfl, HS.out.bel⟩
    · have hkl : k = l0.length := by omega
      have hlt' : ¬ (k : Int) < (l0.length : Int) := by omega
      have hall : l0.all isClass = true := by have := Hall.out; rw [hkl, List.take_length] at this; exact this
      have hres : r1 = ⟨(printL l0).toArray⟩ ∧ r2 = true := by
        have := Hres.out
        rw [if_pos hall] at this
        exact ⟨(congrArg Prod.fst this).symm, (congrArg Prod.snd this).symm⟩
      obtain ⟨rfl, rfl⟩ := hres
      have hown := hS.own
      rw [hkl, List.take_length] at hown
      obtain ⟨A, cap, hv, hle, hread⟩ : ∃ A cap, u4 = .slice A l0.length cap ∧ l0.length ≤ cap ∧ (l0.length ≠ 0 → ∃ g, A = some ⟨g, 0, none⟩ ∧ g < wr.heap.size ∧ ∀ (j : Nat) x, (l0.map nameOf)[j]? = some x → wr.cell? ⟨g, 0 + j, none⟩ = some (.string x)) := by
        rcases hown.2 with ⟨rfl, h0⟩ | ⟨g, cap, cur, rfl, _, hg, hle, _, _, htake⟩
        · exact ⟨none, 0, by rw [h0], by omega, fun h => absurd h0 h⟩
        · refine ⟨_, cap, rfl, hle, fun _ => ⟨g, rfl, lt_of_block hg, fun j x hx => ?_⟩⟩
          have hh := hown.cells (g := g) rfl j (.string x) (by simp only [strV, List.getElem?_map] at hx ⊢; cases hq : l0[j]? with
            | none => rw [hq] at hx; cases hx
            | some y => rw [hq] at hx; simp at hx; simp [hx])
          rw [add_plain] at hh
          rw [Nat.zero_add]; exact hh
      have HS := Lib.hid hS
      have Hkl := Lib.hid hkl
      clear hS hkl hall
      subst hv
      by_cases h0 : l0.length = 0
      · have hl0 : l0 = [] := List.eq_nil_of_length_eq_zero h0
        subst hl0
        go_wp2_with (go_at_call 53; refine (Tryd.strings_Join_none _ _ _ _).mono ?_; rintro e w' ⟨rfl, rfl⟩)
        go_ret2
        exact ⟨rfl, HS.out.bel⟩
      · obtain ⟨g, rfl, hg, hcells⟩ := hread h0
        have hj := Tryd.strings_Join g 0 cap (l0.map nameOf) ⟨#[32]⟩ wr hcells hg (by simp; omega) (by simpa using hle) (by
          have := Lib.hid h0
          rw [show (l0.map nameOf).map (·.data.toList) = l0.map fun c => (nameOf c).data.toList by simp]
          exact joinLen l0 (by omega))
        rw [List.length_map] at hj
        have Hj := Lib.hid hj
        clear hj hread hcells
        go_wp2_with (go_at_call 53; refine Hj.out.mono ?_; rintro e w' ⟨rfl, hb⟩)
        go_ret2
        refine ⟨?_, HS.out.bel.trans (hb.mono (by have := HS.out.siz; omega))⟩
        simp [printL, List.map_map, Function.comp_def]
end Go.Proofs.YtdpifkhkemeclaaDoor
