/- class.Print, walked (as in the first seat). class.Read: the split, walked (as in the first seat). class.Read, walked (as in the first seat). -/
import Derived.Test.YtdpifkhkemeclaaDoorMa
import Derived.Test.YtdpifkhkemeclaaDoorShelf
namespace Go.Proofs.YtdpifkhkemeclaaDoor
open Go.RowKit Go.Proofs.YtdpifkhkemeclaaDoorW.PrintWords
set_option linter.unusedVariables false
set_option linter.unusedSimpArgs false

/-- The name of a class. -/
def nameOf (c : Int) : ByteArray := nameL.getD c.toNat ByteArray.empty
def isClass (c : Int) : Bool := decide (0 ≤ c) && decide (c < 23)
def printL (l : List Int) : List UInt8 := Lib.join (l.map fun c => (nameOf c).data.toList) [32]
def class_Print.f (l0 : List Int) : Option (ByteArray × Bool) :=
  if l0.length ≤ 1048576 then some (if l0.all isClass then (⟨(printL l0).toArray⟩, true) else (⟨#[]⟩, false)) else none

theorem info9' : (Tryd.prog.info? 9).map (fun i => (i.zero, i.size, i.bytes)) = some (some (.string ByteArray.empty), 1, 16) := by kernel_rfl
theorem nameV_at (c : Nat) (h : c < 23) : nameV[c]? = some (.string (nameOf c)) := by
  have hl : c < nameL.length := h
  unfold nameV nameOf
  simp [hl]
theorem nameOf_len (c : Int) : (nameOf c).size ≤ 3 := by
  have h : ∀ x ∈ nameL, x.size ≤ 3 := by decide
  unfold nameOf
  rw [List.getD_eq_getElem?_getD]
  cases hx : nameL[c.toNat]? with
  | none => exact Nat.zero_le _
  | some x => exact h x (List.mem_of_getElem? hx)
theorem joinLen (l : List Int) (h : l.length ≤ 1048576) : (Lib.join (l.map fun c => (nameOf c).data.toList) [32]).length ≤ 140737488355328 := by
  have h2 : ∀ l : List Int, (Lib.join (l.map fun c => (nameOf c).data.toList) [32]).length ≤ 4 * l.length := by
    intro l
    unfold Lib.join
    induction l with
    | nil => simp
    | cons c r ih =>
      have hc := nameOf_len c
      have hc' : (nameOf c).data.toList.length ≤ 3 := hc
      cases r with
      | nil => simp only [List.map_cons, List.map_nil, List.intercalate_singleton, List.length_cons, List.length_nil]; omega
      | cons d r =>
        simp only [List.map_cons, List.intercalate_cons_cons, List.length_append, List.length_cons, List.length_nil] at ih ⊢
        omega
  have := h2 l
  omega
def strV (l : List Int) : List Value := l.map fun c => .string (nameOf c)

structure StP (w : World) (l0 : List Int) (k : Nat) (v : Value) (wr : World) : Prop where
  all : wr.heap[w.heap.size + 1]? = some (.cells nameV 69 (0, 0))
  own : wr.ownsRow (w.heap.size + 2) 9 1 v k (strV (l0.take k))
  bel : Below w.heap.size w wr
  siz : w.heap.size + 2 ≤ wr.heap.size

theorem stP_start (w : World) (l0 : List Int) : StP w l0 0 (.slice none 0 0) ((w.alloc (.cells nameV 69)).alloc (.cells nameV 69)) :=
  ⟨by have := heap_alloc_new (w.alloc (.cells nameV 69)) (.cells nameV 69); simpa using this, World.ownsRow_nil _ _ _ _, ((Below.refl _ _).alloc (Nat.le_refl _) _).alloc (by simp) _, by simp⟩

theorem take_getD (l : List Int) (k : Nat) (h : k < l.length) : l.take (k + 1) = l.take k ++ [l.getD k 0] := by
  rw [List.take_succ_eq_append_getElem h, List.getD_eq_getElem?_getD, List.getElem?_eq_getElem h]; rfl

theorem stP_step {w wr w1 : World} {l0 : List Int} {k : Nat} {v v' : Value} {c : Int} (hk : k < l0.length) (hc : c = l0.getD k 0) (h : StP w l0 k v wr) (o : Obj)
    (hown : w1.ownsRow (w.heap.size + 2) 9 1 v' (k + 1) (strV (l0.take k) ++ [.string (nameOf c)])) (hg : (wr.alloc o).grownBy w1 v.ownBlock) : StP w l0 (k + 1) v' w1 := by
  have hlt := h.siz
  have hsz : (wr.alloc o).heap.size = wr.heap.size + 1 := by simp
  refine ⟨?_, ?_, ?_, ?_⟩
  · rw [hg.block _ (by omega) (by intro e; have := h.own.lt _ e.symm; omega), heap_alloc_old _ _ (by omega)]
    exact h.all
  · rw [take_getD l0 k hk, ← hc]; simpa [strV] using hown
  · exact (h.bel.alloc (by omega) o).grown hg (by omega) (by intro j e; have := h.own.lt _ e; omega)
  · have := hg.size; omega

set_option maxRecDepth 100000 in
set_option maxHeartbeats 2000000 in
theorem class_Print.calls (A0 : Option Addr) (c0 : Nat) (l0 : List Int) (r1 : ByteArray) (r2 : Bool) (w : World) (hr0 : Kd.C (Kd.int .i64) w A0 l0.length l0) (hc0 : l0.length ≤ c0) (h : class_Print.f l0 = some (r1, r2)) :
    Calls Tryd.prog 36 #[.slice A0 l0.length c0] w fun e w' => e = .returned (.tuple #[.string r1, .bool r2]) ∧ Below w.heap.size w w' := by
  unfold class_Print.f at h
  by_cases hm : l0.length ≤ 1048576
  case neg => rw [if_neg hm] at h; cases h
  rw [if_pos hm] at h
  have h := Option.some.inj h
  have Hres := Lib.hid h
  clear h
  have HC := Aside0.mk hr0
  clear hr0 hc0
  have hst := stP_start w l0
  obtain ⟨i9, hi, hz0, hz1, hz2⟩ := info_parts info9'
  go_enter Tryd.func36, Tryd.ntmps36
  go_wp2_with (first
    | (go_at_call 50; refine (names_any _).mono ?_; rintro e w' ⟨rfl, rfl⟩)
    | (refine wpList_alloc69 rfl rfl ?_)
    | (refine wpList_store_row rfl 69 (.tmp 5) (.tmp 8) rfl (w.alloc (.cells nameV 69)).heap.size nameV rfl rfl 69 zeroV (heap_alloc_new _ _) size69 zs69 one69 ?_; rw [set_alloc]))
  go_loopg [4, 11] (l0.length + 1) (fun g v4 v11 wr => ∃ k : Nat, k ≤ l0.length ∧ g = l0.length + 1 - k ∧ v11 = .int .i64 k ∧ StP w l0 k v4 wr ∧ ((l0.take k).all isClass = true))
  case atStart => exact ⟨0, Nat.zero_le _, rfl, rfl, hst, rfl⟩
  case round =>
    clear hst
    obtain ⟨k, hk, hg, rfl, hS, hall⟩ := hrel
    have Hall := Lib.hid hall
    have Hg := Lib.hid hg
    clear hg hall
    by_cases hlt : k < l0.length
    · obtain ⟨ad, e, hc⟩ := Kd.at_int HC.out (k : Int) (by omega) (by omega)
      cases e
      have hc' : w.cell? (ad.add k) = some (.int .i64 (l0.getD k 0)) := by simpa [rd] using hc
      have hblk := World.block_lt_of_cell? w _ hc'
      obtain ⟨c, hcc⟩ : ∃ c, c = l0.getD k 0 := ⟨_, rfl⟩
      have hcx : wr.cell? (ad.add k) = some (.int .i64 c) := by rw [hS.bel.cell hblk, hcc]; exact hc'
      clear hc hc' hblk
      have hlt' : (k : Int) < (l0.length : Int) := by omega
      have Hcc := Lib.hid hcc
      clear hcc
      by_cases hl : isClass c = true
      · have hl2 : 0 ≤ c ∧ c < 23 := by simpa [isClass] using hl
        obtain ⟨cn, rfl⟩ := Int.eq_ofNat_of_zero_le hl2.1
        have hcn : cn < 23 := by omega
        have Hl := Lib.hid hl
        have t1 : decide ((cn : Int) < 0) = false := decide_eq_false (by omega)
        have t2 : ¬ ((cn : Int) < 0) := by omega
        have t3 : (cn : Int) < 23 := by omega
        have cx : wr.cell? ⟨w.heap.size + 1, cn, none⟩ = some (.string (nameOf cn)) := by rw [cell_of_row _ _ _ _ _ _ hS.all]; exact nameV_at cn hcn
        have hown := hS.own
        have hbs := hS.siz
        have HS := Lib.hid hS
        clear hl hl2 hS
        go_wp2_with (first
          | (at_builtin; refine wpList_append_own _ rfl _ _ 71 rfl (w.heap.size + 2) 9 i9 (.string ByteArray.empty) 1 16 Tryd.underlying71 hi hz0 hz1 hz2 rfl (by decide) _ _ _ rfl (hown.alloc _) ⟨wr.heap.size, 0, none⟩ 1 1 [.string (nameOf cn)] rfl rfl ?c1 ?c2 ?c3 ?c4 ?c5 ?_))
        case c2 => rfl
        case c3 => unfold maxLen; omega
        case c4 => omega
        case c5 => omega
        · intro v' w1 hown' hgrow _
          have R := stP_step (by omega) Hcc.out HS.out _ hown' hgrow
          have HR := Lib.hid R
          clear hown' hgrow hown R
          go_wp2
          go_roundg (l0.length + 1 - (k + 1))
          case measure => have := Hg.out; omega
          case rel => exact ⟨k + 1, by omega, rfl, by go_num, HR.out, by rw [take_getD l0 k hlt, List.all_append, Hall.out, ← Hcc.out]; simp [Hl.out]⟩
      · have hl2 : c < 0 ∨ 23 ≤ c := by
          by_cases h0 : c < 0
          · exact .inl h0
          · right; by_cases h1 : 23 ≤ c
            · exact h1
            · exact absurd (by simp [isClass]; omega) hl
        have hres : r1 = ⟨#[]⟩ ∧ r2 = false := by
          have hn : ¬ l0.all isClass = true := by
            intro ha
            rw [List.all_eq_true] at ha
            exact hl (by rw [Hcc.out, List.getD_eq_getElem?_getD, List.getElem?_eq_getElem hlt]; exact ha _ (List.getElem_mem hlt))
          have := Hres.out
          rw [if_neg hn] at this
          exact ⟨(congrArg Prod.fst this).symm, (congrArg Prod.snd this).symm⟩
        obtain ⟨rfl, rfl⟩ := hres
        have HS := Lib.hid hS
        clear hl hS
        rcases hl2 with h0 | h1
        · have t1 : decide (c < 0) = true := decide_eq_true h0
          go_wp2
          go_ret2
          exact ⟨rfl, HS.out.bel⟩
        · have t1 : decide (c < 0) = false := decide_eq_false (by omega)
          have t2 : ¬ c < 0 := by omega
          have t3 : ¬ c < 23 := by omega
          go_wp2
          go_ret2
          exact ⟨rfl, HS.out.bel⟩
    · have hkl : k = l0.length := by omega
      have hlt' : ¬ (k : Int) < (l0.length : Int) := by omega
      have hall : l0.all isClass = true := by have := Hall.out; rw [hkl, List.take_length] at this; exact this
      have hres : r1 = ⟨(printL l0).toArray⟩ ∧ r2 = true := by
        have := Hres.out
        rw [if_pos hall] at this
        exact ⟨(congrArg Prod.fst this).symm, (congrArg Prod.snd this).symm⟩
      obtain ⟨rfl, rfl⟩ := hres
      have hown := hS.own
      rw [hkl, List.take_length] at hown
      obtain ⟨A, cap, hv, hle, hread⟩ : ∃ A cap, u4 = .slice A l0.length cap ∧ l0.length ≤ cap ∧ (l0.length ≠ 0 → ∃ g, A = some ⟨g, 0, none⟩ ∧ g < wr.heap.size ∧ ∀ (j : Nat) x, (l0.map nameOf)[j]? = some x → wr.cell? ⟨g, 0 + j, none⟩ = some (.string x)) := by
        rcases hown.2 with ⟨rfl, h0⟩ | ⟨g, cap, cur, rfl, _, hg, hle, _, _, htake⟩
        · exact ⟨none, 0, by rw [h0], by omega, fun h => absurd h0 h⟩
        · refine ⟨_, cap, rfl, hle, fun _ => ⟨g, rfl, lt_of_block hg, fun j x hx => ?_⟩⟩
          have hh := hown.cells (g := g) rfl j (.string x) (by simp only [strV, List.getElem?_map] at hx ⊢; cases hq : l0[j]? with
            | none => rw [hq] at hx; cases hx
            | some y => rw [hq] at hx; simp at hx; simp [hx])
          rw [add_plain] at hh
          rw [Nat.zero_add]; exact hh
      have HS := Lib.hid hS
      have Hkl := Lib.hid hkl
      clear hS hkl hall
      subst hv
      by_cases h0 : l0.length = 0
      · have hl0 : l0 = [] := List.eq_nil_of_length_eq_zero h0
        subst hl0
        go_wp2_with (go_at_call 53; refine (Tryd.strings_Join_none _ _ _ _).mono ?_; rintro e w' ⟨rfl, rfl⟩)
        go_ret2
        exact ⟨rfl, HS.out.bel⟩
      · obtain ⟨g, rfl, hg, hcells⟩ := hread h0
        have hj := Tryd.strings_Join g 0 cap (l0.map nameOf) ⟨#[32]⟩ wr hcells hg (by simp; omega) (by simpa using hle) (by
          have := Lib.hid h0
          rw [show (l0.map nameOf).map (·.data.toList) = l0.map fun c => (nameOf c).data.toList by simp]
          exact joinLen l0 (by omega))
        rw [List.length_map] at hj
        have Hj := Lib.hid hj
        clear hj hread hcells
        go_wp2_with (go_at_call 53; refine Hj.out.mono ?_; rintro e w' ⟨rfl, hb⟩)
        go_ret2
        refine ⟨?_, HS.out.bel.trans (hb.mono (by have := HS.out.siz; omega))⟩
        simp [printL, List.map_map, Function.comp_def]
end Go.Proofs.YtdpifkhkemeclaaDoor
namespace Go.Proofs.YtdpifkhkemeclaaDoor
open Go.RowKit Go.Proofs.YtdpifkhkemeclaaDoorW.PrintWords
set_option linter.unusedVariables false
set_option linter.unusedSimpArgs false

/-- A text cut at its blanks. -/
def splitSp : List UInt8 → List (List UInt8)
  | [] => [[]]
  | c :: r => if c = 32 then [] :: splitSp r else match splitSp r with
    | [] => [[c]]
    | p :: ps => (c :: p) :: ps
theorem splitSp_ne (s : List UInt8) : splitSp s ≠ [] := by
  cases s with
  | nil => simp [splitSp]
  | cons c r => unfold splitSp; split; · simp
                split <;> simp
theorem splitSp_none (s : List UInt8) (h : 32 ∉ s) : splitSp s = [s] := by
  induction s with
  | nil => rfl
  | cons c r ih =>
    unfold splitSp
    rw [if_neg (by intro e; exact h (by simp [e])), ih (fun hm => h (List.mem_cons_of_mem _ hm))]
theorem splitSp_app (p q : List UInt8) (h : 32 ∉ p) : splitSp (p ++ 32 :: q) = p :: splitSp q := by
  induction p with
  | nil => simp [splitSp]
  | cons c r ih =>
    rw [List.cons_append]
    conv => lhs; unfold splitSp
    rw [if_neg (by intro e; exact h (by simp [e])), ih (fun hm => h (List.mem_cons_of_mem _ hm))]
theorem cut_at (s : List UInt8) : 32 ∉ s ∨ ∃ p q, s = p ++ 32 :: q ∧ 32 ∉ p := by
  induction s with
  | nil => exact .inl (by simp)
  | cons c r ih =>
    by_cases hc : c = 32
    · exact .inr ⟨[], r, by simp [hc], by simp⟩
    · rcases ih with h | ⟨p, q, e, hp⟩
      · exact .inl (by simp [h]; exact fun e => hc e.symm)
      · exact .inr ⟨c :: p, q, by simp [e], by simp [hp]; exact fun e => hc e.symm⟩
theorem index_sp_none (s : List UInt8) (h : 32 ∉ s) : Lib.index s [32] = -1 := by
  refine Lib.index_none fun j hj => ?_
  unfold Lib.occAt
  rw [Bool.eq_false_iff]
  intro hp
  have := List.isPrefixOf_iff_prefix.1 hp
  obtain ⟨t, ht⟩ := this
  have : 32 ∈ s.drop j := by rw [← ht]; simp
  exact h (List.mem_of_mem_drop this)
theorem index_sp (p q : List UInt8) (h : 32 ∉ p) : Lib.index (p ++ 32 :: q) [32] = (p.length : Nat) := by
  refine Lib.index_first (by simp) ?_ fun j hj => ?_
  · unfold Lib.occAt
    simp [List.drop_append]
  · unfold Lib.occAt
    rw [Bool.eq_false_iff]
    intro hp
    obtain ⟨t, ht⟩ := List.isPrefixOf_iff_prefix.1 hp
    rw [List.drop_append_of_le_length (by omega)] at ht
    have hlt : j < p.length := hj
    have ht' : 32 = p[j] := by
      rw [List.drop_eq_getElem_cons hlt, List.singleton_append, List.cons_append] at ht
      exact (List.cons.inj ht).1
    exact h (by rw [ht']; exact List.getElem_mem _)
theorem splitK_sp : ∀ (n : Nat) (s : List UInt8), s.length ≤ n → Lib.splitK [32] 0 (s.count 32) s = splitSp s
  | 0, s, hn => by
    have : s = [] := List.eq_nil_of_length_eq_zero (by omega)
    subst this; rfl
  | n + 1, s, hn => by
    rcases cut_at s with h | ⟨p, q, e, hp⟩
    · rw [splitSp_none s h, List.count_eq_zero_of_not_mem h]; rfl
    · subst e
      rw [splitSp_app p q hp]
      have hc : (p ++ 32 :: q).count 32 = q.count 32 + 1 := by
        rw [List.count_append, List.count_eq_zero_of_not_mem hp]; simp
      rw [hc, Lib.splitK, index_sp p q hp]
      rw [if_neg (by simp)]
      have hlen : (p ++ 32 :: q).length = p.length + (q.length + 1) := by simp
      congr 1
      · simp
      · rw [← splitK_sp n q (by omega)]
        congr 1
        simp [List.drop_append]

theorem countB_sp (s : ByteArray) : Lib.countB s ⟨#[32]⟩ = s.data.toList.count 32 := Lib.count_one 32 s.data.toList
/-- The pieces of a text, as Split makes them. -/
def pieces (s : ByteArray) : List ByteArray := Lib.splitB ⟨#[32]⟩ 0 (Lib.countB s ⟨#[32]⟩) s
theorem pieces_data (s : ByteArray) : (pieces s).map (·.data.toList) = splitSp s.data.toList := by
  unfold pieces
  rw [Lib.splitB_data, countB_sp]
  exact splitK_sp _ _ (Nat.le_refl _)

theorem genSplit_any (s : ByteArray) (w : World) (hs : s.size ≤ 1048576) :
    Calls Tryd.prog 68 #[.string s, .string ⟨#[32]⟩, .int .i64 0, .int .i64 (-1)] w fun e w' =>
      e = .returned (.slice (some ⟨w.heap.size, 0, none⟩) (pieces s).length (pieces s).length) ∧ w' = w.alloc (.cells ((pieces s).map Value.string).toArray 9) := by
  have hle := Lib.countB_le ⟨#[32]⟩ (by decide) s.size s (Nat.le_refl _)
  have hlen := Lib.splitB_all ⟨#[32]⟩ (by decide) 0 _ s rfl
  have c := Any.strings_genSplit_core Tryd.lays221 (by kernel_rfl) s ⟨#[32]⟩ 0 (-1) (Lib.countB s ⟨#[32]⟩ + 1) w (by omega) (by decide) (Nat.zero_le _)
    (fun x c _ => (Tryd.strings_Index_one x 32 _).mono fun e w' ⟨he, hw⟩ => ⟨by rw [he]; exact congrArg (fun z => Ending.returned (Value.int .i64 z)) (Lib.index_one _ _).symm, hw⟩)
    ((Tryd.strings_Count_one s 32 w).mono fun e w' ⟨he, hw⟩ => ⟨by
      rw [he]
      show _ = Ending.returned (Value.int .i64 ((Lib.count s.data.toList [32] : Nat) : Int))
      rw [Lib.count_one]
      rfl, hw⟩) (by decide) (by decide) (by rw [if_pos (by decide)]; omega)
  rw [Nat.add_sub_cancel] at c
  have hp : (pieces s).length = Lib.countB s ⟨#[32]⟩ + 1 := hlen
  have e2 : Lib.cellsOf (Lib.splitB ⟨#[32]⟩ 0 (Lib.countB s ⟨#[32]⟩) s) (Lib.countB s ⟨#[32]⟩ + 1) = ((pieces s).map Value.string).toArray := by
    rw [← hlen]; exact Lib.cellsOf_full _
  rw [e2] at c
  rw [hp]
  refine c.mono fun e w' ⟨he, hw⟩ => ⟨?_, hw⟩
  rw [he, hlen]

theorem split_any (s : ByteArray) (w : World) (hs : s.size ≤ 1048576) :
    Calls Tryd.prog 51 #[.string s, .string ⟨#[32]⟩] w fun e w' =>
      e = .returned (.slice (some ⟨w.heap.size, 0, none⟩) (pieces s).length (pieces s).length) ∧ w' = w.alloc (.cells ((pieces s).map Value.string).toArray 9) := by
  have c := genSplit_any s w hs
  go_enter Tryd.func51, Tryd.ntmps51
  go_wp2_with (go_at_call 68; refine c.mono ?_; rintro e w' ⟨rfl, hw⟩; rw [hw])
  go_ret
  exact ⟨rfl, rfl⟩
end Go.Proofs.YtdpifkhkemeclaaDoor
namespace Go.Proofs.YtdpifkhkemeclaaDoor
open Go.RowKit Go.Proofs.YtdpifkhkemeclaaDoorW.PrintWords
set_option linter.unusedVariables false
set_option linter.unusedSimpArgs false
theorem info3' : (Tryd.prog.info? 3).map (fun i => (i.zero, i.size, i.bytes)) = some (some (.int .i64 0), 1, 8) := by kernel_rfl

def nameD : List (List UInt8) := nameL.map (·.data.toList)
/-- The number of a class's name; -1: it is none's. -/
def ixD (p : List UInt8) : Int := if p ∈ nameD then (nameD.idxOf p : Nat) else -1
def readL (ps : List (List UInt8)) : List Int × Bool := if ps.all (fun p => decide (0 ≤ ixD p)) then (ps.map ixD, true) else ([], false)
def class_Read.f (a0 : ByteArray) : Option (List Int × Bool) :=
  if a0.size ≤ 1048576 then some (if a0.size = 0 then ([], true) else readL (splitSp a0.data.toList)) else none

theorem bytes_ext {a b : ByteArray} (h : a.data.toList = b.data.toList) : a = b := by
  cases a; cases b; simp at h; simp [h]
theorem ix_eq (x : ByteArray) : Lib.idxOfS nameL x = ixD x.data.toList := by
  unfold ixD
  have e : nameL = nameL.take 23 := rfl
  by_cases h : x.data.toList ∈ nameD
  · rw [if_pos h]
    have hlt : nameD.idxOf x.data.toList < nameD.length := List.idxOf_lt_length_of_mem h
    have hlt' : nameD.idxOf x.data.toList < 23 := hlt
    have hget := List.getElem_idxOf hlt
    rw [e]
    refine Lib.idxOfS_hit nameL 23 _ x hlt' (Nat.le_refl _) ?_ fun j hj hne => ?_
    · apply bytes_ext
      rw [List.getD_eq_getElem?_getD, List.getElem?_eq_getElem hlt']
      have : (nameL[nameD.idxOf x.data.toList]'hlt').data.toList = nameD[nameD.idxOf x.data.toList]'hlt := (List.getElem_map (fun x : ByteArray => x.data.toList) (h := hlt)).symm
      exact this.trans hget
    · have hj' : j < nameD.length := Nat.lt_trans hj hlt
      have hjl : j < nameL.length := hj'
      have h2 : nameD[j]'hj' = x.data.toList := by
        rw [← hne, List.getD_eq_getElem?_getD, List.getElem?_eq_getElem hjl]; simp [nameD]
      have := List.not_of_lt_findIdx (p := (· == x.data.toList)) (xs := nameD) (i := j) hj
      simp [h2] at this
  · rw [if_neg h, e]
    refine Lib.idxOfS_miss nameL 23 x fun j hj hne => h ?_
    have hjl : j < nameL.length := hj
    rw [← hne, List.getD_eq_getElem?_getD, List.getElem?_eq_getElem hjl]
    exact List.mem_map_of_mem (List.getElem_mem _)
theorem ix_le (p : List UInt8) : ixD p < 23 := by
  unfold ixD
  split
  · rename_i h
    have : nameD.idxOf p < nameD.length := List.idxOf_lt_length_of_mem h
    have e : nameD.length = 23 := rfl
    omega
  · omega

structure StR (w : World) (ps : List ByteArray) (k : Nat) (v : Value) (wr : World) : Prop where
  all : wr.heap[w.heap.size + 1]? = some (.cells nameV 69 (0, 0))
  pcs : wr.heap[w.heap.size + 1 + 1]? = some (.cells (ps.map Value.string).toArray 9 (0, 0))
  own : wr.ownsRow (w.heap.size + 3) 3 1 v k (nums .i64 ((ps.take k).map fun x => ixD x.data.toList))
  bel : Below w.heap.size w wr
  siz : w.heap.size + 3 ≤ wr.heap.size

theorem stR_start (w : World) (ps : List ByteArray) : StR w ps 0 (.slice none 0 0) (((w.alloc (.cells nameV 69)).alloc (.cells nameV 69)).alloc (.cells (ps.map Value.string).toArray 9)) := by
  refine ⟨?_, ?_, World.ownsRow_nil _ _ _ _, (((Below.refl _ _).alloc (Nat.le_refl _) _).alloc (by simp) _).alloc (by simp; omega) _, by simp⟩
  · rw [heap_alloc_old _ _ (by simp)]
    have := heap_alloc_new (w.alloc (.cells nameV 69)) (.cells nameV 69); simpa using this
  · have := heap_alloc_new ((w.alloc (.cells nameV 69)).alloc (.cells nameV 69)) (.cells (ps.map Value.string).toArray 9); simpa using this

theorem stR_step {w wr w1 : World} {ps : List ByteArray} {k : Nat} {v v' : Value} {x : ByteArray} (hk : k < ps.length) (hc : x = ps.getD k ByteArray.empty) (h : StR w ps k v wr) (o : Obj)
    (hown : w1.ownsRow (w.heap.size + 3) 3 1 v' (k + 1) (nums .i64 ((ps.take k).map fun x => ixD x.data.toList) ++ [.int .i64 (ixD x.data.toList)])) (hg : (wr.alloc o).grownBy w1 v.ownBlock) : StR w ps (k + 1) v' w1 := by
  have hlt := h.siz
  have hsz : (wr.alloc o).heap.size = wr.heap.size + 1 := by simp
  refine ⟨?_, ?_, ?_, ?_, ?_⟩
  · rw [hg.block _ (by omega) (by intro e; have := h.own.lt _ e.symm; omega), heap_alloc_old _ _ (by omega)]
    exact h.all
  · rw [hg.block _ (by omega) (by intro e; have := h.own.lt _ e.symm; omega), heap_alloc_old _ _ (by omega)]
    exact h.pcs
  · have e : ps.take (k + 1) = ps.take k ++ [x] := by
      rw [hc, List.take_succ_eq_append_getElem hk, List.getD_eq_getElem?_getD, List.getElem?_eq_getElem hk]; rfl
    rw [e]; simpa [nums] using hown
  · exact (h.bel.alloc (by omega) o).grown hg (by omega) (by intro j e; have := h.own.lt _ e; omega)
  · have := hg.size; omega

set_option maxRecDepth 100000 in
set_option maxHeartbeats 2000000 in
theorem class_Read.calls (a0 : ByteArray) (r1 : List Int) (r2 : Bool) (w : World) (h : class_Read.f a0 = some (r1, r2)) :
    Calls Tryd.prog 35 #[.string a0] w fun e w' => ∃ v0_ : Value, e = .returned (.tuple #[v0_, .bool r2]) ∧ Kd.R (Kd.int .i64) 3 w' w.heap.size (fun _ => True) v0_ r1 ∧ Below w.heap.size w w' := by
  unfold class_Read.f at h
  by_cases hm : a0.size ≤ 1048576
  case neg => rw [if_neg hm] at h; cases h
  rw [if_pos hm] at h
  have h := Option.some.inj h
  by_cases h0 : a0.size = 0
  · rw [if_pos h0] at h
    have e1 := congrArg Prod.fst h
    have e2 := congrArg Prod.snd h
    simp only at e1 e2
    subst e1 e2
    have ha : a0 = ⟨#[]⟩ := by
      apply bytes_ext
      exact List.eq_nil_of_length_eq_zero h0
    subst ha
    go_enter Tryd.func35, Tryd.ntmps35
    go_wp2
    go_ret2
    exact ⟨_, rfl, Kd.R_nil _ _ _ _ _, Below.refl _ _⟩
  rw [if_neg h0] at h
  have Hres := Lib.hid h
  clear h
  have hst := stR_start w (pieces a0)
  have hne : a0.toList.isEmpty = false := by
    rw [Lib.toList_data]
    cases hq : a0.data.toList with
    | nil => exact absurd (by show a0.data.toList.length = 0; rw [hq]; rfl) h0
    | cons _ _ => rfl
  have hne2 : (a0.toList == []) = false := by
    cases hq : a0.toList with
    | nil => rw [hq] at hne; cases hne
    | cons _ _ => rfl
  have hpl : (pieces a0).length ≤ 1048577 := by
    have := Lib.splitB_length_le ⟨#[32]⟩ 0 (Lib.countB a0 ⟨#[32]⟩) a0
    have h2 := Lib.countB_le ⟨#[32]⟩ (by decide) a0.size a0 (Nat.le_refl _)
    unfold pieces; omega
  have hsp := split_any a0
  go_enter Tryd.func35, Tryd.ntmps35
  go_wp2_with (first
    | (go_at_call 50; refine (names_any _).mono ?_; rintro e w' ⟨rfl, rfl⟩)
    | (go_at_call 51; refine (hsp _ hm).mono ?_; rintro e w' ⟨rfl, rfl⟩)
    | (refine wpList_alloc69 rfl rfl ?_)
    | (refine wpList_store_row rfl 69 (.tmp 5) (.tmp 12) rfl (w.alloc (.cells nameV 69)).heap.size nameV rfl rfl 69 zeroV (heap_alloc_new _ _) size69 zs69 one69 ?_; rw [set_alloc]))
  go_loopg [2, 3, 4, 16] ((pieces a0).length + 1) (fun g v2 v3 v4 v16 wr => ∃ k : Nat, k ≤ (pieces a0).length ∧ g = (pieces a0).length + 1 - k ∧ v16 = .int .i64 k ∧ StR w (pieces a0) k v4 wr ∧ (((pieces a0).take k).all (fun x => decide (0 ≤ ixD x.data.toList)) = true))
  case atStart => exact ⟨0, Nat.zero_le _, rfl, rfl, hst, rfl⟩
  case round =>
    clear hst hsp
    obtain ⟨k, hk, hg, rfl, hS, hall⟩ := hrel
    have Hall := Lib.hid hall
    have Hg := Lib.hid hg
    clear hg hall
    by_cases hlt : k < (pieces a0).length
    · obtain ⟨x, hx⟩ : ∃ x, x = (pieces a0).getD k ByteArray.empty := ⟨_, rfl⟩
      have hcx : wr.cell? ⟨w.heap.size + 1 + 1, k, none⟩ = some (.string x) := by
        rw [cell_of_row _ _ _ _ _ _ hS.pcs, hx]
        simp [List.getElem?_eq_getElem hlt]
      have hlt' : (k : Int) < ((pieces a0).length : Int) := by omega
      have hix := (Tryd.slices_Index_string (w.heap.size + 1) 0 23 23 nameL x wr (Nat.le_refl 23) (by omega) (fun j hj => by
        rw [cell_of_row _ _ _ _ _ _ hS.all, Nat.zero_add]
        have : nameV[j]? = some (.string (nameL.getD j ByteArray.empty)) := by
          unfold nameV
          simp [List.getElem?_eq_getElem hj]
        exact this))
      rw [show nameL.take 23 = nameL from rfl, ix_eq] at hix
      have Hix := Lib.hid hix
      have hile := ix_le x.data.toList
      obtain ⟨c, hc⟩ : ∃ c, c = ixD x.data.toList := ⟨_, rfl⟩
      rw [← hc] at hile
      have Hc := Lib.hid hc
      have Hx := Lib.hid hx
      clear hix hx hc
      have hown := hS.own
      have hbs := hS.siz
      have HS := Lib.hid hS
      clear hS
      by_cases h0c : c < 0
      · have Hr : Hid (r1 = [] ∧ r2 = false) := by
          have hn : ¬ (splitSp a0.data.toList).all (fun p => decide (0 ≤ ixD p)) = true := by
            intro ha
            rw [← pieces_data, List.all_map, List.all_eq_true] at ha
            have := ha x (by rw [Hx.out, List.getD_eq_getElem?_getD, List.getElem?_eq_getElem hlt]; exact List.getElem_mem hlt)
            simp only [Function.comp, decide_eq_true_eq] at this
            rw [← Hc.out] at this
            omega
          have := Hres.out
          unfold readL at this
          rw [if_neg hn] at this
          exact ⟨(congrArg Prod.fst this).symm, (congrArg Prod.snd this).symm⟩
        go_wp2_with (first | (go_at_call 52; refine Hix.out.mono ?_; rintro e w' ⟨rfl, hw⟩; obtain rfl := hw.symm; clear hw; rw [← Hc.out]))
        go_ret2
        obtain ⟨e1, e2⟩ := Hr.out
        subst e1 e2
        exact ⟨_, rfl, Kd.R_nil _ _ _ _ _, HS.out.bel⟩
      · have h1c : 0 ≤ c := by omega
        have h2c : ¬ c < 0 := h0c
        clear h0c
        have hs63 : k + 1 ≤ maxLen := by unfold maxLen; omega
        have hsb : (k + 1) * 8 ≤ 140737488355328 := by omega
        go_wp2_with (first
          | (go_at_call 52; refine Hix.out.mono ?_; rintro e w' ⟨rfl, hw⟩; obtain rfl := hw.symm; clear hw; rw [← Hc.out])
          | (at_builtin; refine Base.wpList_append_one rfl _ _ 22 rfl (w.heap.size + 3) 3 (.int .i64 0) 8 Tryd.underlying22 info3' rfl _ _ _ rfl hown _ rfl 1 rfl hs63 hsb hbs ?_; intro v' w1 hown' hgrow; have HR := Lib.hid (stR_step (by omega) Hx.out HS.out _ (by rw [← Hc.out]; exact hown') hgrow); clear hown' hgrow hown))
        go_roundg ((pieces a0).length + 1 - (k + 1))
        case measure => have := Hg.out; omega
        case rel =>
            refine ⟨k + 1, by omega, rfl, by go_num, HR.out, ?_⟩
            have e : (pieces a0).take (k + 1) = (pieces a0).take k ++ [x] := by
              rw [Hx.out, List.take_succ_eq_append_getElem hlt, List.getD_eq_getElem?_getD, List.getElem?_eq_getElem hlt]; rfl
            rw [e, List.all_append, Hall.out, Bool.true_and, List.all_cons, List.all_nil, Bool.and_true, ← Hc.out]
            exact decide_eq_true h1c
    · have hkl : k = (pieces a0).length := by omega
      have hlt' : ¬ (k : Int) < ((pieces a0).length : Int) := by omega
      have Hr : Hid (r1 = (pieces a0).map (fun x => ixD x.data.toList) ∧ r2 = true) := by
        have hn : (splitSp a0.data.toList).all (fun p => decide (0 ≤ ixD p)) = true := by
          rw [← pieces_data, List.all_map]
          have := Hall.out
          rw [hkl, List.take_length] at this
          exact this
        have := Hres.out
        unfold readL at this
        rw [if_pos hn, ← pieces_data, List.map_map] at this
        exact ⟨(congrArg Prod.fst this).symm, (congrArg Prod.snd this).symm⟩
      have HS := Lib.hid hS
      have Hkl := Lib.hid hkl
      clear hS hkl
      go_wp2
      go_ret2
      obtain ⟨e1, e2⟩ := Hr.out
      subst e1 e2
      have hS := HS.out
      have hown := hS.own
      rw [Hkl.out, List.take_length] at hown
      refine ⟨_, rfl, Kd.R_lower (Kd.R_of_own (by simpa [encs, nums] using hown) (fun _ _ => trivial)) (by omega), hS.bel⟩
end Go.Proofs.YtdpifkhkemeclaaDoor
