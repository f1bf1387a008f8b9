/- class.Read, walked (as in the first seat). -/
import Derived.Test.YtdpifkhkemeclaaDoorClsR
import Derived.Test.YtdpifkhkemeclaaDoorBase
namespace Go.Proofs.YtdpifkhkemeclaaDoor
open Go.RowKit Go.Proofs.YtdpifkhkemeclaaDoorW.PrintWords
set_option linter.unusedVariables false
set_option linter.unusedSimpArgs false
theorem info3' : (Tryd.prog.info? 3).map (fun i => (i.zero, i.size, i.bytes)) = some (some (.int .i64 0), 1, 8) := by kernel_rfl

def nameD : List (List UInt8) := nameL.map (·.data.toList)
/-- The number of a class's name; -1: it is none's. -/
def ixD (p : List UInt8) : Int := if p ∈ nameD then (nameD.idxOf p : Nat) else -1
def readL (ps : List (List UInt8)) : List Int × Bool := if ps.all (fun p => decide (0 ≤ ixD p)) then (ps.map ixD, true) else ([], false)
def class_Read.f (a0 : ByteArray) : Option (List Int × Bool) :=
  if a0.size ≤ 1048576 then some (if a0.size = 0 then ([], true) else readL (splitSp a0.data.toList)) else none

theorem bytes_ext {a b : ByteArray} (h : a.data.toList = b.data.toList) : a = b := by
  cases a; cases b; simp at h; simp [h]
theorem ix_eq (x : ByteArray) : Lib.idxOfS nameL x = ixD x.data.toList := by
  unfold ixD
  have e : nameL = nameL.take 23 := rfl
  by_cases h : x.data.toList ∈ nameD
  · rw [if_pos h]
    have hlt : nameD.idxOf x.data.toList < nameD.length := List.idxOf_lt_length_of_mem h
    have hlt' : nameD.idxOf x.data.toList < 23 := hlt
    have hget := List.getElem_idxOf hlt
    rw [e]
    refine Lib.idxOfS_hit nameL 23 _ x hlt' (Nat.le_refl _) ?_ fun j hj hne => ?_
    · apply bytes_ext
      rw [List.getD_eq_getElem?_getD, List.getElem?_eq_getElem hlt']
      have : (nameL[nameD.idxOf x.data.toList]'hlt').data.toList = nameD[nameD.idxOf x.data.toList]'hlt := (List.getElem_map (fun x : ByteArray => x.data.toList) (h := hlt)).symm
      exact this.trans hget
    · have hj' : j < nameD.length := Nat.lt_trans hj hlt
      have hjl : j < nameL.length := hj'
      have h2 : nameD[j]'hj' = x.data.toList := by
        rw [← hne, List.getD_eq_getElem?_getD, List.getElem?_eq_getElem hjl]; simp [nameD]
      have := List.not_of_lt_findIdx (p := (· == x.data.toList)) (xs := nameD) (i := j) hj
      simp [h2] at this
  · rw [if_neg h, e]
    refine Lib.idxOfS_miss nameL 23 x fun j hj hne => h ?_
    have hjl : j < nameL.length := hj
    rw [← hne, List.getD_eq_getElem?_getD, List.getElem?_eq_getElem hjl]
    exact List.mem_map_of_mem (List.getElem_mem _)
theorem ix_le (p : List UInt8) : ixD p < 23 := by
  unfold ixD
  split
  · rename_i h
    have : nameD.idxOf p < nameD.length := List.idxOf_lt_length_of_mem h
    have e : nameD.length = 23 := rfl
    omega
  · omega

structure StR (w : World) (ps : List ByteArray) (k : Nat) (v : Value) (wr : World) : Prop where
  all : wr.heap[w.heap.size + 1]? = some (.cells nameV 69 (0, 0))
  pcs : wr.heap[w.heap.size + 1 + 1]? = some (.cells (ps.map Value.string).toArray 9 (0, 0))
  own : wr.ownsRow (w.heap.size + 3) 3 1 v k (nums .i64 ((ps.take k).map fun x => ixD x.data.toList))
  bel : Below w.heap.size w wr
  siz : w.heap.size + 3 ≤ wr.heap.size

theorem stR_start (w : World) (ps : List ByteArray) : StR w ps 0 (.slice none 0 0) (((w.alloc (.cells nameV 69)).alloc (.cells nameV 69)).alloc (.cells (ps.map Value.string).toArray 9)) := by
  refine ⟨?_, ?_, World.ownsRow_nil _ _ _ _, (((Below.refl _ _).alloc (Nat.le_refl _) _).alloc (by simp) _).alloc (by simp; omega) _, by simp⟩
  · rw [heap_alloc_old _ _ (by simp)]
    have := heap_alloc_new (w.alloc (.cells nameV 69)) (.cells nameV 69); simpa using this
  · have := heap_alloc_new ((w.alloc (.cells nameV 69)).alloc (.cells nameV 69)) (.cells (ps.map Value.string).toArray 9); simpa using this

theorem stR_step {w wr w1 : World} {ps : List ByteArray} {k : Nat} {v v' : Value} {x : ByteArray} (hk : k < ps.length) (hc : x = ps.getD k ByteArray.empty) (h : StR w ps k v wr) (o : Obj)
    (hown : w1.ownsRow (w.heap.size + 3) 3 1 v' (k + 1) (nums .i64 ((ps.take k).map fun x => ixD x.data.toList) ++ [.int .i64 (ixD x.data.toList)])) (hg : (wr.alloc o).grownBy w1 v.ownBlock) : StR w ps (k + 1) v' w1 := by
  have hlt := h.siz
  have hsz : (wr.alloc o).heap.size = wr.heap.size + 1 := by simp
  refine ⟨?_, ?_, ?_, ?_, ?_⟩
  · rw [hg.block _ (by omega) (by intro e; have := h.own.lt _ e.symm; omega), heap_alloc_old _ _ (by omega)]
    exact h.all
  · rw [hg.block _ (by omega) (by intro e; have := h.own.lt _ e.symm; omega), heap_alloc_old _ _ (by omega)]
    exact h.pcs
  · have e : ps.take (k + 1) = ps.take k ++ [x] := by
      rw [hc, List.take_succ_eq_append_getElem hk, List.getD_eq_getElem?_getD, List.getElem?_eq_getElem hk]; rfl
    rw [e]; simpa [nums] using hown
  · exact (h.bel.alloc (by omega) o).grown hg (by omega) (by intro j e; have := h.own.lt _ e; omega)
  · have := hg.size; omega

set_option maxRecDepth 100000 in
set_option maxHeartbeats 2000000 in
theorem class_Read.calls (a0 : ByteArray) (r1 : List Int) (r2 : Bool) (w : World) (h : class_Read.f a0 = some (r1, r2)) :
    Calls Tryd.prog 35 #[.string a0] w fun e w' => ∃ v0_ : Value, e = .returned (.tuple #[v0_, .bool r2]) ∧ Kd.R (Kd.int .i64) 3 w' w.heap.size (fun _ => True) v0_ r1 ∧ Below w.heap.size w w' := by
  unfold class_Read.f at h
  by_cases hm : a0.size ≤ 1048576
  case neg => rw [if_neg hm] at h; cases h
  rw [if_pos hm] at h
  have h := Option.some.inj h
  by_cases h0 : a0.size = 0
  · rw [if_pos h0] at h
    have e1 := congrArg Prod.fst h
    have e2 := congrArg Prod.snd h
    simp only at e1 e2
    subst e1 e2
    have ha : a0 = ⟨#[]⟩ := by
      apply bytes_ext
      exact List.eq_nil_of_length_eq_zero h0
    subst ha
    go_enter Tryd.func35, Tryd.ntmps35
    go_wp2
    go_ret2
    exact ⟨_, rfl, Kd.R_nil _ _ _ _ _, Below.refl _ _⟩
  rw [if_neg h0] at h
  have Hres := Lib.hid h
  clear h
  have hst := stR_start w (pieces a0)
  have hne : a0.toList.isEmpty = false := by
    rw [Lib.toList_data]
    cases hq : a0.data.toList with
    | nil => exact absurd (by show a0.data.toList.length = 0; rw [hq]; rfl) h0
    | cons _ _ => rfl
  have hne2 : (a0.toList == []) = false := by
    cases hq : a0.toList with
    | nil => rw [hq] at hne; cases hne
    | cons _ _ => rfl
  have hpl : (pieces a0).length ≤ 1048577 := by
    have := Lib.splitB_length_le ⟨#[32]⟩ 0 (Lib.countB a0 ⟨#[32]⟩) a0
    have h2 := Lib.countB_le ⟨#[32]⟩ (by decide) a0.size a0 (Nat.le_refl _)
    unfold pieces; omega
  have hsp := split_any a0
  go_enter Tryd.func35, Tryd.ntmps35
  go_wp2_with (first
    | (go_at_call 50; refine (names_any _).mono ?_; rintro e w' ⟨rfl, rfl⟩)
    | (go_at_call 51; refine (hsp _ hm).mono ?_; rintro e w' ⟨rfl, rfl⟩)
    | (refine wpList_alloc69 rfl rfl ?_)
    | (refine wpList_store_row rfl 69 (.tmp 5) (.tmp 12) rfl (w.alloc (.cells nameV 69)).heap.size nameV rfl rfl 69 zeroV (heap_alloc_new _ _) size69 zs69 one69 ?_; rw [set_alloc]))
  go_loopg [2, 3, 4, 16] ((pieces a0).length + 1) (fun g v2 v3 v4 v16 wr => ∃ k : Nat, k ≤ (pieces a0).length ∧ g = (pieces a0).length + 1 - k ∧ v16 = .int .i64 k ∧ StR w (pieces a0) k v4 wr ∧ (((pieces a0).take k).all (fun x => decide (0 ≤ ixD x.data.toList)) = true))
  case atStart => exact ⟨0, Nat.zero_le _, rfl, rfl, hst, rfl⟩
  case round =>
    clear hst hsp
    obtain ⟨k, hk, hg, rfl, hS, hall⟩ := hrel
    have Hall := Lib.hid hall
    have Hg := Lib.hid hg
    clear hg hall
    by_cases hlt : k < (pieces a0).length
    · obtain ⟨x, hx⟩ : ∃ x, x = (pieces a0).getD k ByteArray.empty := ⟨_, rfl⟩
      have hcx : wr.cell? ⟨w.heap.size + 1 + 1, k, none⟩ = some (.string x) := by
        rw [cell_of_row _ _ _ _ _ _ hS.pcs, hx]
        simp [List.getElem?_eq_getElem hlt]
      have hlt' : (k : Int) < ((pieces a0).length : Int) := by omega
      have hix := (Tryd.slices_Index_string (w.heap.size + 1) 0 23 23 nameL x wr (Nat.le_refl 23) (by omega) (fun j hj => by
        rw [cell_of_row _ _ _ _ _ _ hS.all, Nat.zero_add]
        have : nameV[j]? = some (.string (nameL.getD j ByteArray.empty)) := by
          unfold nameV
          simp [List.getElem?_eq_getElem hj]
        exact this))
      rw [show nameL.take 23 = nameL from rfl, ix_eq] at hix
      have Hix := Lib.hid hix
      have hile := ix_le x.data.toList
      obtain ⟨c, hc⟩ : ∃ c, c = ixD x.data.toList := ⟨_, rfl⟩
      rw [← hc] at hile
      have Hc := Lib.hid hc
      have Hx := Lib.hid hx
      clear hix hx hc
      have hown := hS.own
      have hbs := hS.siz
      have HS := Lib.hid hS
      clear hS
      by_cases h0c : c < 0
      · have Hr : Hid (r1 = [] ∧ r2 = false) := by
          have hn : ¬ (splitSp a0.data.toList).all (fun p => decide (0 ≤ ixD p)) = true := by
            intro ha
            rw [← pieces_data, List.all_map, List.all_eq_true] at ha
            have := ha x (by rw [Hx.out, List.getD_eq_getElem?_getD, List.getElem?_eq_getElem hlt]; exact List.getElem_mem hlt)
            simp only [Function.comp, decide_eq_true_eq] at this
            rw [← Hc.out] at this
            omega
          have := Hres.out
          unfold readL at this
          rw [if_neg hn] at this
          exact ⟨(congrArg Prod.fst this).symm, (congrArg Prod.snd this).symm⟩
        go_wp2_with (first | (go_at_call 52; refine Hix.out.mono ?_; rintro e w' ⟨rfl, hw⟩; obtain rfl := hw.symm; clear hw; rw [← Hc.out]))
        go_ret2
        obtain ⟨e1, e2⟩ := Hr.out
        subst e1 e2
        exact ⟨_, rfl, Kd.R_nil _ _ _ _ _, HS.out.bel⟩
      · have h1c : 0 ≤ c := by omega
        have h2c : ¬ c < 0 := h0c
        clear h0c
        have hs63 : k + 1 ≤ maxLen := by unfold maxLen; omega
        have hsb : (k + 1) * 8 ≤ 140737488355328 := by omega
        go_wp2_with (first
          | (go_at_call 52; refine Hix.out.mono ?_; rintro e w' ⟨rfl, hw⟩; obtain rfl := hw.symm; clear hw; rw [← Hc.out])
          | (at_builtin; refine Base.wpList_append_one rfl _ _ 22 rfl (w.heap.size + 3) 3 (.int .i64 0) 8 Tryd.underlying22 info3' rfl _ _ _ rfl hown _ rfl 1 rfl hs63 hsb hbs ?_; intro v' w1 hown' hgrow; have HR := Lib.hid (stR_step (by omega) Hx.out HS.out _ (by rw [← Hc.out]; exact hown') hgrow); clear hown' hgrow hown))
        go_roundg ((pieces a0).length + 1 - (k + 1))
        case measure => have := Hg.out; omega
        case rel =>
            refine ⟨k + 1, by omega, rfl, by go_num, HR.out, ?_⟩
            have e : (pieces a0).take (k + 1) = (pieces a0).take k ++ [x] := by
              rw [Hx.out, List.take_succ_eq_append_getElem hlt, List.getD_eq_getElem?_getD, List.getElem?_eq_getElem hlt]; rfl
            rw [e, List.all_append, Hall.out, Bool.true_and, List.all_cons, List.all_nil, Bool.and_true, ← Hc.out]
            exact decide_eq_true h1c
    · have hkl : k = (pieces a0).length := by omega
      have hlt' : ¬ (k : Int) < ((pieces a0).length : Int) := by omega
      have Hr : Hid (r1 = (pieces a0).map (fun x => ixD x.data.toList) ∧ r2 = true) := by
        have hn : (splitSp a0.data.toList).all (fun p => decide (0 ≤ ixD p)) = true := by
          rw [← pieces_data, List.all_map]
          have := Hall.out
          rw [hkl, List.take_length] at this
          exact this
        have := Hres.out
        unfold readL at this
        rw [if_pos hn, ← pieces_data, List.map_map] at this
        exact ⟨(congrArg Prod.fst this).symm, (congrArg Prod.snd this).symm⟩
      have HS := Lib.hid hS
      have Hkl := Lib.hid hkl
      clear hS hkl
      go_wp2
      go_ret2
      obtain ⟨e1, e2⟩ := Hr.out
      subst e1 e2
      have hS := HS.out
      have hown := hS.own
      rw [Hkl.out, List.take_length] at hown
      refine ⟨_, rfl, Kd.R_lower (Kd.R_of_own (by simpa [encs, nums] using hown) (fun _ _ => trivial)) (by omega), hS.bel⟩
end Go.Proofs.YtdpifkhkemeclaaDoor
