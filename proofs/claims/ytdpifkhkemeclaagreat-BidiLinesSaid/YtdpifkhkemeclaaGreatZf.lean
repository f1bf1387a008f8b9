/- seqs.runs where there is one run at most: the state of its walk. seqs.runs: the region that lays a place behind the last run's, in a round. seqs.runs where every level that comes is the paragraph's: one run, or none. seqs: way, beside, behind, goes, where one run stands. -/
import Derived.Test.YtdpifkhkemeclaaGreatZe
import Derived.Test.YtdpifkhkemeclaaGreatZj
import Derived.Test.YtdpifkhkemeclaaGreatVLast
namespace Go.Proofs.YtdpifkhkemeclaaGreat
open Go.RowKit Go.Shelf Go.Proofs.YtdpifkhkemeclaaGreatW.PrintWords
set_option linter.unusedVariables false
set_option linter.unusedSimpArgs false
theorem step_append_own {P : Program} {w : World} {ops : Array Oper} {o : Oper} {a : Act} {Q : Exit → Act → World → Prop} {K : Act → World → Prop} {E : Prop} (hgd : o.guard = none) (s x : Operand) (t : TypeId)
    (ho : o.op = .call { callee := .builtin .append, args := #[s, x], argTypes := #[t, t] })
    (base : Nat) (e : TypeId) (i : TypeInfo) (z : Value) (size bytes : Nat) (ht : P.underlying t = some (.slice e)) (hi : P.info? e = some i) (hz : i.zero = some z)
    (hsize : i.size = size) (hby : i.bytes = bytes) (hzs : z.cells.size = size) (hsz : 0 < size)
    (v : Value) (n : Nat) (xs : List Value) (hs : a.eval s = v) (hown : w.ownsRow base e size v n xs)
    (ad : Addr) (m c : Nat) (news : List Value) (hx : a.eval x = .slice (some ad) m c) (hl : news.length = m * size) (hnews : ∀ j u, news[j]? = some u → w.cell? (ad.add j) = some u) (h1 : ∀ u ∈ news, u.oneCell' = true)
    (h63 : n + m ≤ maxLen) (hbytes : (n + m) * bytes ≤ 140737488355328) (hbase : base ≤ w.heap.size)
    (h : ∀ v' w', w'.ownsRow base e size v' (n + m) (xs ++ news) → w.grownBy w' v.ownBlock → K (a.put o.dst v') w') :
    if Region.wanted o (yielded ops a.tmps) = true then Oper.wp P o a w K Q else E := by
  have hw : Region.wanted o (yielded ops a.tmps) = true := by simp [Region.wanted, hgd]
  rw [if_pos hw]
  obtain ⟨v', w', hr, h2, h3, h4, h5⟩ := run_append_own_at (P := P) w base t o.type e i z size bytes ht hi hz hsize hby hzs hsz v n xs hown ad m c news hl hnews h1 h63 hbytes hbase
  unfold Oper.wp execOp
  simp only [ho, resolve, invoke, builtin, Sem.run_bind, Sem.run_pure, Result.andThen_ok, List.map_toArray, List.map_cons, List.map_nil, hs, hx, hr]
  exact h v' w' h2 h3

/-- One run stands: its row, its places. -/
structure RT (w : World) (lv : Value) (para f t : Int) (vO vA : Value) (ks : List Nat) (W : World) : Prop where
  bel : Below w.heap.size w W
  bO : Boxed W w.heap.size 81 vO
  bS : Boxed W (w.heap.size + 1) 25 lv
  rO : W.ownsRow w.heap.size 85 4 vO 1 [.int .i64 para, .int .i64 f, .int .i64 t, vA]
  rA : W.ownsRow w.heap.size 3 1 vA ks.length (icells ks)
section
variable {w W W' : World} {lv : Value} {para f t : Int} {vO vA : Value} {ks : List Nat}
theorem RT.below (h : RT w lv para f t vO vA ks W) (hb : Below W.heap.size W W') : RT w lv para f t vO vA ks W' :=
  ⟨h.bel.trans (hb.mono h.bel.size), (hb.block _ h.bO.lt).trans h.bO, (hb.block _ h.bS.lt).trans h.bS, pw_own_below h.rO hb, pw_own_below h.rA hb⟩
theorem RT.alloc (h : RT w lv para f t vO vA ks W) (o : Obj) : RT w lv para f t vO vA ks (W.alloc o) := h.below ((Below.refl _ _).alloc (Nat.le_refl _) _)
theorem RT.drew (h : RT w lv para f t vO vA ks W) : RT w lv para f t vO vA ks W.drew := h.below (Below.refl _ _).drew
theorem RT.own {B : Nat} (hB : w.heap.size ≤ B) (h : RT w lv para f t vO vA ks W) {row : Option Nat} (hg : W.grownBy W' row) (hr : ∀ (r : Nat), row = some r → B ≤ r ∧ ∃ o, W.heap[r]? = some o ∧ o.isCells = false) : RT w lv para f t vO vA ks W' := by
  have hbx : ∀ {k : Nat} {t : TypeId} {v : Value}, Boxed W k t v → Boxed W' k t v := fun {k t v} hb => hb.kept hg (fun e => by
    obtain ⟨_, o, ho, hc⟩ := hr k e.symm
    rw [show W.heap[k]? = _ from hb] at ho
    cases ho
    cases hc)
  have hrw : ∀ {e : TypeId} {s n : Nat} {v : Value} {xs : List Value}, W.ownsRow w.heap.size e s v n xs → W'.ownsRow w.heap.size e s v n xs := fun {e s n v xs} ho => by
    refine ho.kept hg ?_
    rcases ho.2 with ⟨rfl, _⟩ | ⟨g, cap, cur, rfl, _, hh, _⟩
    · exact .inl rfl
    · refine .inr (fun e2 => ?_)
      obtain ⟨_, o, ho', hc⟩ := hr g e2.symm
      rw [hh] at ho'
      cases ho'
      cases hc
  exact ⟨h.bel.grown hg h.bel.size (fun k e => Nat.le_trans hB (hr k e).1), hbx h.bO, hbx h.bS, hrw h.rO, hrw h.rA⟩
/-- The last place is written. -/
theorem RT.to {g c : Nat} (h : RT w lv para f t (.slice (some ⟨g, 0, none⟩) 1 c) vA ks W) (t' : Int) :
    RT w lv para f t' (.slice (some ⟨g, 0, none⟩) 1 c) vA ks (W.setCell ⟨g, 2, none⟩ (.int .i64 t')) ∧ KeepsOthers W (W.setCell ⟨g, 2, none⟩ (.int .i64 t')) := by
  obtain ⟨h1, h2⟩ := h.rO.stored (g := g) 2 (.int .i64 t')
  exact ⟨⟨h.bel.grown h2 h.bel.size (fun k e => by cases e; exact own_base h.rO g rfl), h.bO.kept h2 (h.bO.not_row (by decide) h.rO), h.bS.kept h2 (h.bS.not_row (by decide) h.rO), h1, h.rA.kept h2 (own_type_ne h.rA h.rO (by decide))⟩, KeepsOthers.setCell _ _ _⟩
/-- A place is laid behind the others. -/
theorem RT.grow {g c : Nat} (h : RT w lv para f t (.slice (some ⟨g, 0, none⟩) 1 c) vA ks W) (o : Obj) (i : Nat) {vA' : Value} (hr : W'.ownsRow w.heap.size 3 1 vA' (ks.length + 1) (icells ks ++ [.int .i64 (i : Int)])) (hg : (W.alloc o).grownBy W' vA.ownBlock) :
    RT w lv para f t (.slice (some ⟨g, 0, none⟩) 1 c) vA' (ks ++ [i]) (W'.setCell ⟨g, 3, none⟩ vA') := by
  have h1 := h.alloc o
  have nO := h1.bO.kept hg (h1.bO.not_row (by decide) h1.rA)
  have nS := h1.bS.kept hg (h1.bS.not_row (by decide) h1.rA)
  have nr := h1.rO.kept hg (own_type_ne h1.rO h1.rA (by decide))
  have hb : Below w.heap.size w W' := h1.bel.grown hg h1.bel.size (fun k hk => own_base h1.rA k hk)
  obtain ⟨q1, q2⟩ := nr.stored (g := g) 3 vA'
  refine ⟨hb.grown q2 hb.size (fun k e => by cases e; exact own_base nr g rfl), nO.kept q2 (nO.not_row (by decide) nr), nS.kept q2 (nS.not_row (by decide) nr), q1, ?_⟩
  rw [icells_snoc, List.length_append]
  exact hr.kept q2 (own_type_ne hr nr (by decide))
/-- The run is begun. -/
theorem RT.new (hb : Below w.heap.size w W) (hx : Boxed W w.heap.size 81 (.slice none 0 0)) (hs : Boxed W (w.heap.size + 1) 25 lv) (o : Obj) {vO' : Value} (hr : W'.ownsRow w.heap.size 85 4 vO' 1 [.int .i64 para, .int .i64 f, .int .i64 0, .slice none 0 0]) (hg : (W.alloc o).grownBy W' none) :
    RT w lv para f 0 vO' (.slice none 0 0) [] (W'.setCell ⟨w.heap.size, 0, none⟩ vO') := by
  have b1 := (hx.alloc o).kept hg (by simp)
  have b2 := (hs.alloc o).kept hg (by simp)
  have hb1 : Below w.heap.size w W' := (hb.alloc hb.size o).grown hg (by simp; have := hb.size; omega) (fun k e => by cases e)
  exact ⟨hb1.setCell (p := ⟨w.heap.size, 0, none⟩) (Nat.le_refl _) _, b1.set _, b2.other (by omega) _, own_setCell hr (show some w.heap.size ≠ vO'.ownBlock from own_ne hr b1 (by decide)) _, World.ownsRow_nil _ _ _ _⟩
end
end Go.Proofs.YtdpifkhkemeclaaGreat
namespace Go.Proofs.YtdpifkhkemeclaaGreat
open Go.RowKit Go.Shelf Go.Proofs.YtdpifkhkemeclaaGreatW.PrintWords Go.Proofs.YtdpifkhkemeclaaGreatW.PrintLast
set_option linter.unusedVariables false
set_option linter.unusedSimpArgs false
theorem region_last {P : Program} {ops : Array Oper} {Q : Exit → Act → World → Prop} {S : World → Prop} {ds : List Nat} {id m : Nat} {a : Act} {w : World} (l : Array Bool) (hm : P.follows .mixedOrders = true) (hd : ops.all (fun (o : Oper) => match o.op with | Op.defer _ => false | _ => true) = true) (k n : Nat) (hn : ops.size = m) (hl : Array.replicate m false = l) (hS : S w.drew) (K : Act → World → Prop)
  (h : S w.drew → wpAnyLast P .any ops (fun e a w => e = .normal ∧ K a w) S ds m l a w.drew) (hK : ∀ a w, K a w → Q .normal a w) : (Code.region id ops true).wpIn (Fence.wide.inRound k) n P Q a w := by
 subst hn
 subst hl
 exact region_round hm hd k n K (wpAny_of_last _ _ _ _ (h hS)) hK
theorem own_isCells' {W : World} {base : Nat} {e : TypeId} {size n : Nat} {v : Value} {xs : List Value} (h : W.ownsRow base e size v n xs) : ∀ (j : Nat) (o : Obj), v.ownBlock = some j → W.heap[j]? = some o → o.isCells = true := by
 intro j o hj ho
 rcases h.2 with ⟨rfl, _⟩ | ⟨g, cap, cur, rfl, _, hg, _⟩
 ·simp [Value.ownBlock] at hj
 ·simp [Value.ownBlock] at hj
  subst hj
  rw [hg] at ho
  injection ho with ho
  subst ho
  rfl
theorem info3r : (Tryz.prog.info? 3).map (fun i => (i.zero, i.size, i.bytes)) = some (some (.int .i64 0), 1, 8) := by kernel_rfl
set_option maxRecDepth 100000 in
set_option maxHeartbeats 4000000 in
theorem reg10 (l n : Nat) {w W : World} {lv : Value} {para f t : Int} {g c : Nat} {vA : Value} {ks : List Nat} (i : Nat) (HT : RT w lv para f t (.slice (some ⟨g, 0, none⟩) 1 c) vA ks W) (hks : ks.length ≤ 1048576) (t0 t1 t2 t5 t7 t8 t9 t10 t11 t12 t13 t14 t15 t16 t17 t18 t19 t20 t21 t22 t23 t24 t25 t26 t27 t28 t29 t30 t31 t32 t33 t34 t35 t36 t37 t38 t39 t40 t41 t42 t43 t44 t45 t46 t47 t48 t49 t50 : Value) (Q : Exit → Act → World → Prop)
  (hQ : ∀ (v' : Value) (W' : World), RT w lv para f t (.slice (some ⟨g, 0, none⟩) 1 c) v' (ks ++ [i]) W' → KeepsOthers W W' → Q .normal { tmps := #[t0, t1, t2, .pointer (some ⟨w.heap.size, 0, none⟩), .int .i64 (i : Int), t5, .int .i64 0, t7, t8, t9, t10, t11, t12, t13, t14, t15, t16, t17, t18, t19, t20, t21, t22, t23, t24, t25, t26, t27, t28, t29, t30, t31, t32, t33, t34, t35, t36, t37, .slice (some ⟨g, 0, none⟩) 1 c, .int .i64 0, .slice (some ⟨g, 0, none⟩) 1 c, .int .i64 0, .pointer (some ⟨g, 0, none⟩), .pointer (some ⟨g, 3, none⟩), vA, .int .i64 (i : Int), .slice (some ⟨W.heap.size, 0, none⟩) 1 1, v', .pointer (some ⟨g, 0, none⟩), .pointer (some ⟨g, 3, none⟩), t50], defers := [] } W') :
  (Code.region 10 #[{ dst := some 38, op := Op.load 81 (Operand.tmp 3), type := 81, pos := "seqs.go:40", after := #[], guard := none }, { dst := some 39, op := Op.move (Operand.tmp 6), type := 3, pos := "seqs.go:40", after := #[], guard := none }, { dst := some 40, op := Op.load 81 (Operand.tmp 3), type := 81, pos := "seqs.go:40", after := #[], guard := none }, { dst := some 41, op := Op.move (Operand.tmp 6), type := 3, pos := "seqs.go:40", after := #[], guard := none }, { dst := some 42, op := Op.indexAddr 81 (Operand.tmp 40) (Operand.tmp 41), type := 0, pos := "seqs.go:40", after := #[{ on := 2, ground := Ground.data }, { on := 3, ground := Ground.data }], guard := none }, { dst := some 43, op := Op.fieldAddr 85 (Operand.tmp 42) 3, type := 0, pos := "seqs.go:40", after := #[{ on := 4, ground := Ground.data }], guard := none }, { dst := some 44, op := Op.load 25 (Operand.tmp 43), type := 25, pos := "seqs.go:40", after := #[{ on := 5, ground := Ground.data }], guard := none }, { dst := some 45, op := Op.move (Operand.tmp 4), type := 3, pos := "seqs.go:40", after := #[], guard := none }, { dst := some 46, op := Op.buildSlice 25 1 #[(0, Operand.tmp 45)], type := 25, pos := "seqs.go:40", after := #[{ on := 7, ground := Ground.data }], guard := none }, { dst := some 47, op := Op.call { callee := Callee.builtin Builtin.append, args := #[Operand.tmp 44, Operand.tmp 46], argTypes := #[25, 25] }, type := 25, pos := "seqs.go:40", after := #[{ on := 6, ground := Ground.data }, { on := 8, ground := Ground.data }], guard := none }, { dst := some 48, op := Op.indexAddr 81 (Operand.tmp 38) (Operand.tmp 39), type := 0, pos := "seqs.go:40", after := #[{ on := 0, ground := Ground.data }, { on := 1, ground := Ground.data }, { on := 0, ground := Ground.phase }, { on := 1, ground := Ground.phase }, { on := 2, ground := Ground.phase }, { on := 3, ground := Ground.phase }, { on := 4, ground := Ground.phase }, { on := 5, ground := Ground.phase }, { on := 6, ground := Ground.phase }, { on := 7, ground := Ground.phase }, { on := 8, ground := Ground.phase }, { on := 9, ground := Ground.phase }], guard := none }, { dst := some 49, op := Op.fieldAddr 85 (Operand.tmp 48) 3, type := 0, pos := "seqs.go:40", after := #[{ on := 10, ground := Ground.data }, { on := 0, ground := Ground.phase }, { on := 1, ground := Ground.phase }, { on := 2, ground := Ground.phase }, { on := 3, ground := Ground.phase }, { on := 4, ground := Ground.phase }, { on := 5, ground := Ground.phase }, { on := 6, ground := Ground.phase }, { on := 7, ground := Ground.phase }, { on := 8, ground := Ground.phase }, { on := 9, ground := Ground.phase }], guard := none }, { dst := none, op := Op.store 25 (Operand.tmp 49) (Operand.tmp 47), type := 0, pos := "seqs.go:40", after := #[{ on := 11, ground := Ground.data }, { on := 9, ground := Ground.data }, { on := 9, ground := Ground.chain }, { on := 0, ground := Ground.phase }, { on := 1, ground := Ground.phase }, { on := 2, ground := Ground.phase }, { on := 3, ground := Ground.phase }, { on := 4, ground := Ground.phase }, { on := 5, ground := Ground.phase }, { on := 6, ground := Ground.phase }, { on := 7, ground := Ground.phase }, { on := 8, ground := Ground.phase }, { on := 9, ground := Ground.phase }], guard := none }] true).wpIn (Fence.wide.inRound l) n Tryz.prog Q { tmps := #[t0, t1, t2, .pointer (some ⟨w.heap.size, 0, none⟩), .int .i64 (i : Int), t5, .int .i64 0, t7, t8, t9, t10, t11, t12, t13, t14, t15, t16, t17, t18, t19, t20, t21, t22, t23, t24, t25, t26, t27, t28, t29, t30, t31, t32, t33, t34, t35, t36, t37, t38, t39, t40, t41, t42, t43, t44, t45, t46, t47, t48, t49, t50], defers := [] } W := by
 have hc0 : W.drew.cell? ⟨w.heap.size, 0, none⟩ = some (.slice (some ⟨g, 0, none⟩) 1 c) := HT.drew.bO.cell
 have hc1 : W.drew.cell? ⟨g, 3, none⟩ = some vA := HT.drew.rO.cells (g := g) rfl 3 vA rfl
 refine region_last (m := 13) (S := fun w' => w'.cell? ⟨w.heap.size, 0, none⟩ = some (.slice (some ⟨g, 0, none⟩) 1 c) ∧ w'.cell? ⟨g, 3, none⟩ = some vA) (ds := [12]) #[false, false, false, false, false, false, false, false, false, false, false, false, false] (by kernel_rfl) (by kernel_rfl) l n rfl rfl ⟨hc0, hc1⟩
  (fun a' W' => ∃ v', a' = { tmps := #[t0, t1, t2, .pointer (some ⟨w.heap.size, 0, none⟩), .int .i64 (i : Int), t5, .int .i64 0, t7, t8, t9, t10, t11, t12, t13, t14, t15, t16, t17, t18, t19, t20, t21, t22, t23, t24, t25, t26, t27, t28, t29, t30, t31, t32, t33, t34, t35, t36, t37, .slice (some ⟨g, 0, none⟩) 1 c, .int .i64 0, .slice (some ⟨g, 0, none⟩) 1 c, .int .i64 0, .pointer (some ⟨g, 0, none⟩), .pointer (some ⟨g, 3, none⟩), vA, .int .i64 (i : Int), .slice (some ⟨W.heap.size, 0, none⟩) 1 1, v', .pointer (some ⟨g, 0, none⟩), .pointer (some ⟨g, 3, none⟩), t50], defers := [] } ∧ RT w lv para f t (.slice (some ⟨g, 0, none⟩) 1 c) v' (ks ++ [i]) W' ∧ KeepsOthers W W') (fun hHeld => ?_) (fun a' W' ⟨v', e, h1, h2⟩ => by subst e; exact hQ v' W' h1 h2)
 have HD := HT.drew
 have KD := KeepsOthers.drew W
 have hsz : Hid (W.drew.heap.size = W.heap.size) := Lib.hid rfl
 generalize W.drew = w1 at hc0 hc1 hHeld HD KD hsz ⊢
 refine pure_ (i := 1) (N := some 39) (v := ?_) (a' := ?_) #[false, true, false, false, false, false, false, false, false, false, false, false, false] rfl rfl (by kernel_rfl) (fun _ _ _ h => by cases h.1) (Or.inl ⟨by rfl, ?_⟩) ?_ ?_
 rotate_left
 ·intro w'
  go_simp
  with_reducible rfl
 rotate_left
 ·simp only [Act.put, List.setIfInBounds_toArray, List.set_cons_zero, List.set_cons_succ, i64_w, i32_w]
  rfl
 refine pure_ (i := 3) (N := some 41) (v := ?_) (a' := ?_) #[false, true, false, true, false, false, false, false, false, false, false, false, false] rfl rfl (by kernel_rfl) (fun _ _ _ h => by cases h.1) (Or.inl ⟨by rfl, ?_⟩) ?_ ?_
 rotate_left
 ·intro w'
  go_simp
  with_reducible rfl
 rotate_left
 ·simp only [Act.put, List.setIfInBounds_toArray, List.set_cons_zero, List.set_cons_succ, i64_w, i32_w]
  rfl
 refine pure_ (i := 7) (N := some 45) (v := ?_) (a' := ?_) #[false, true, false, true, false, false, false, true, false, false, false, false, false] rfl rfl (by kernel_rfl) (fun _ _ _ h => by cases h.1) (Or.inl ⟨by rfl, ?_⟩) ?_ ?_
 rotate_left
 ·intro w'
  go_simp
  with_reducible rfl
 rotate_left
 ·simp only [Act.put, List.setIfInBounds_toArray, List.set_cons_zero, List.set_cons_succ, i64_w, i32_w]
  rfl
 refine take_ (i := 0) (N := some 38) (v := ?_) (a' := ?_) #[true, true, false, true, false, false, false, true, false, false, false, false, false] rfl rfl (by kernel_rfl) (fun _ _ _ h => by cases h.1) (Or.inl ⟨by rfl, ?_⟩) hHeld ?_ ?_
 rotate_left
 ·rintro w' ⟨s0, s1⟩
  go_simp
  with_reducible rfl
 rotate_left
 ·simp only [Act.put, List.setIfInBounds_toArray, List.set_cons_zero, List.set_cons_succ, i64_w, i32_w]
  rfl
 refine take_ (i := 2) (N := some 40) (v := ?_) (a' := ?_) #[true, true, true, true, false, false, false, true, false, false, false, false, false] rfl rfl (by kernel_rfl) (fun _ _ _ h => by cases h.1) (Or.inl ⟨by rfl, ?_⟩) hHeld ?_ ?_
 rotate_left
 ·rintro w' ⟨s0, s1⟩
  go_simp
  with_reducible rfl
 rotate_left
 ·simp only [Act.put, List.setIfInBounds_toArray, List.set_cons_zero, List.set_cons_succ, i64_w, i32_w]
  rfl
 refine pure_ (i := 4) (N := some 42) (v := ?_) (a' := ?_) #[true, true, true, true, true, false, false, true, false, false, false, false, false] rfl rfl (by kernel_rfl) (fun _ _ _ h => by cases h.1) (Or.inl ⟨by rfl, ?_⟩) ?_ ?_
 rotate_left
 ·intro w'
  go_simp
  with_reducible rfl
 rotate_left
 ·simp only [Act.put, List.setIfInBounds_toArray, List.set_cons_zero, List.set_cons_succ, i64_w, i32_w]
  rfl
 refine pure_ (i := 5) (N := some 43) (v := ?_) (a' := ?_) #[true, true, true, true, true, true, false, true, false, false, false, false, false] rfl rfl (by kernel_rfl) (fun _ _ _ h => by cases h.1) (Or.inl ⟨by rfl, ?_⟩) ?_ ?_
 rotate_left
 ·intro w'
  go_simp
  with_reducible rfl
 rotate_left
 ·simp only [Act.put, List.setIfInBounds_toArray, List.set_cons_zero, List.set_cons_succ, i64_w, i32_w]
  rfl
 refine take_ (i := 6) (N := some 44) (v := ?_) (a' := ?_) #[true, true, true, true, true, true, true, true, false, false, false, false, false] rfl rfl (by kernel_rfl) (fun _ _ _ h => by cases h.1) (Or.inl ⟨by rfl, ?_⟩) hHeld ?_ ?_
 rotate_left
 ·rintro w' ⟨s0, s1⟩
  go_simp
  with_reducible rfl
 rotate_left
 ·simp only [Act.put, List.setIfInBounds_toArray, List.set_cons_zero, List.set_cons_succ, i64_w, i32_w]
  rfl
 refine one_ (i := 8) (N := some 46) #[true, true, true, true, true, true, true, true, true, false, false, false, false] rfl rfl (by kernel_rfl) (by decide) (fun K hK => ?_)
 go_simp
 have HA := HD.alloc (.cells #[.int .i64 (i : Int)] 3)
 have KA := KD.trans (KeepsOthers.alloc w1 (.cells #[.int .i64 (i : Int)] 3))
 have hnew := heap_alloc_new w1 (.cells #[.int .i64 (i : Int)] 3)
 have ha0 := HA.bO.cell
 have ha1 : (w1.alloc (.cells #[.int .i64 (i : Int)] 3)).cell? ⟨g, 3, none⟩ = some vA := HA.rO.cells (g := g) rfl 3 vA rfl
 refine hK.out _ _ ⟨ha0, ha1⟩ (fun hHeld => ?_)
 clear hK K
 obtain ⟨i3, hi3, hz0, hz1, hz2⟩ := info_parts info3r
 refine one_ (i := 9) (N := some 47) #[true, true, true, true, true, true, true, true, true, true, false, false, false] rfl rfl (by kernel_rfl) (by decide) (fun K hK => ?_)
 refine step_append_own rfl (.tmp 44) (.tmp 46) 25 rfl w.heap.size 3 i3 (.int .i64 0) 1 8 Tryz.underlying25 hi3 hz0 hz1 hz2 rfl (by decide) vA ks.length (icells ks) rfl HA.rA ⟨w1.heap.size, 0, none⟩ 1 1 [.int .i64 (i : Int)] rfl rfl
  (by intro j u hj; match j, hj with | 0, hj => rw [show (⟨w1.heap.size, 0, none⟩ : Addr).add 0 = ⟨w1.heap.size, 0, none⟩ from rfl, cell_of_row _ _ _ _ _ _ hnew]; exact hj)
  (by intro u hu; simp at hu; subst hu; rfl) (by unfold maxLen; omega) (by omega) (by have := HD.bel.size; simp; omega) ?_
 intro v' w2 hown' hgrow
 obtain ⟨A', c', rfl⟩ := own_slice hown'
 have HG := fun (hs : W.heap.size = W.heap.size) => HD.grow (.cells #[.int .i64 (i : Int)] 3) i hown' hgrow
 have hb0 := HA.bO.kept hgrow (HA.bO.not_row (by decide) HA.rA)
 have hr0 := HA.rO.kept hgrow (own_type_ne HA.rO HA.rA (by decide))
 have hb1 : w2.cell? ⟨g, 3, none⟩ = some vA := hr0.cells (g := g) rfl 3 vA rfl
 have hfz : w2.frozen? ⟨g, 3, none⟩ = false := by
  rcases hr0.2 with ⟨h', _⟩ | ⟨g', cap', cur, h', _, hh, _⟩
  ·cases h'
  ·have : g = g' := by injection h' with h'; injection h' with h'; injection h' with h'
   subst this
   simp [World.frozen?, hh]
 have KG : KeepsOthers W w2 := KA.trans (KeepsOthers.of_grownBy hgrow (fun j o hj ho => own_isCells' HA.rA j o hj ho))
 refine hK.out _ _ ⟨hb0.cell, hb1⟩ (fun hHeld => ?_)
 clear hK K
 refine norm_ (a' := ?_) ?_ ?_
 rotate_left
 ·show Act.put _ (some 47) _ = _
  simp only [Act.put, List.setIfInBounds_toArray, List.set_cons_zero, List.set_cons_succ, i64_w, i32_w]
  rfl
 refine pure_ (i := 10) (N := some 48) (v := ?_) (a' := ?_) #[true, true, true, true, true, true, true, true, true, true, true, false, false] rfl rfl (by kernel_rfl) (fun _ _ _ h => by cases h.1) (Or.inl ⟨by rfl, ?_⟩) ?_ ?_
 rotate_left
 ·intro w'
  go_simp
  with_reducible rfl
 rotate_left
 ·simp only [Act.put, List.setIfInBounds_toArray, List.set_cons_zero, List.set_cons_succ, i64_w, i32_w]
  rfl
 refine pure_ (i := 11) (N := some 49) (v := ?_) (a' := ?_) #[true, true, true, true, true, true, true, true, true, true, true, true, false] rfl rfl (by kernel_rfl) (fun _ _ _ h => by cases h.1) (Or.inl ⟨by rfl, ?_⟩) ?_ ?_
 rotate_left
 ·intro w'
  go_simp
  with_reducible rfl
 rotate_left
 ·simp only [Act.put, List.setIfInBounds_toArray, List.set_cons_zero, List.set_cons_succ, i64_w, i32_w]
  rfl
 refine last_ (i := 12) (N := none) #[true, true, true, true, true, true, true, true, true, true, true, true, true] rfl rfl (by kernel_rfl) (by decide) (fun K hK => ?_)
 go_simp
 refine hK.out _ _ ?_
 refine done_ (by kernel_rfl) ?_
 exact ⟨rfl, _, by rw [← hsz.out], HG rfl, KG.trans (KeepsOthers.setCell _ _ _)⟩
end Go.Proofs.YtdpifkhkemeclaaGreat
namespace Go.Proofs.YtdpifkhkemeclaaGreat
open Go.RowKit Go.Shelf Go.Proofs.YtdpifkhkemeclaaGreatW.PrintWords
set_option linter.unusedVariables false
set_option linter.unusedSimpArgs false
attribute [local go_sem] Oper.semAt_some
/-- Where the walk over the places stands. -/
structure RI (w : World) (para : Int) (lv : Value) (ks : List Nat) (W : World) : Prop where
  st : (ks = [] ∧ Below w.heap.size w W ∧ Boxed W w.heap.size 81 (.slice none 0 0) ∧ Boxed W (w.heap.size + 1) 25 lv) ∨ ∃ f t g c vA, ks.head? = some f ∧ ks.getLast? = some t ∧ RT w lv para (f : Int) (t : Int) (.slice (some ⟨g, 0, none⟩) 1 c) vA ks W
theorem RI.bel {w W : World} {para : Int} {lv : Value} {ks : List Nat} (h : RI w para lv ks W) : Below w.heap.size w W := by
  rcases h.st with ⟨_, hb, _⟩ | ⟨f, t, g, c, vA, _, _, hT⟩
  · exact hb
  · exact hT.bel
theorem RI.bS {w W : World} {para : Int} {lv : Value} {ks : List Nat} (h : RI w para lv ks W) : Boxed W (w.heap.size + 1) 25 lv := by
  rcases h.st with ⟨_, _, _, hb⟩ | ⟨f, t, g, c, vA, _, _, hT⟩
  · exact hb
  · exact hT.bS
theorem RI.kp {w W W' : World} {para : Int} {lv : Value} {ks ks' : List Nat} (h : RI w para lv ks W) (h' : RI w para lv ks' W') (hs : W.heap.size ≤ W'.heap.size) : KpB (w.heap.size + 1) w.heap.size W W' := by
  refine ⟨hs, fun k hk hlt => ?_⟩
  rcases hk with hk | rfl
  · rw [h'.bel.block k hk, h.bel.block k hk]
  · rw [show W'.heap[w.heap.size + 1]? = _ from h'.bS, show W.heap[w.heap.size + 1]? = _ from h.bS]
theorem RI.own {w : World} {para : Int} {lv : Value} {B : Nat} (hB : w.heap.size ≤ B) {α : Type} (F : α → List Nat) : OwnFrom B (fun (s : α) W => RI w para lv (F s) W) := by
  intro s W W' row h hg hr
  have hbx : ∀ {k : Nat} {t : TypeId} {v : Value}, Boxed W k t v → Boxed W' k t v := fun {k t v} hb => hb.kept hg (fun e => by
    obtain ⟨_, o, ho, hc⟩ := hr k e.symm
    rw [show W.heap[k]? = _ from hb] at ho
    cases ho
    cases hc)
  refine ⟨?_⟩
  rcases h.st with ⟨h1, h2, h3, h4⟩ | ⟨f, t, g, c, vA, h1, h2, hT⟩
  · exact .inl ⟨h1, h2.grown hg h2.size (fun k e => Nat.le_trans hB (hr k e).1), hbx h3, hbx h4⟩
  · exact .inr ⟨f, t, g, c, vA, h1, h2, hT.own hB hg hr⟩
theorem info85r : (Tryz.prog.info? 85).map (fun i => (i.zero, i.size, i.bytes)) = some (some (.agg #[.int .i64 0, .int .i64 0, .int .i64 0, .slice none 0 0]), 4, 48) := by kernel_rfl
theorem RT.frozen {w W : World} {lv : Value} {para f t : Int} {g c : Nat} {vA : Value} {ks : List Nat} (h : RT w lv para f t (.slice (some ⟨g, 0, none⟩) 1 c) vA ks W) (j : Nat) : W.frozen? ⟨g, j, none⟩ = false := by
  rcases h.rO.2 with ⟨h', _⟩ | ⟨g', cap', cur, h', _, hh, _⟩
  · cases h'
  · have : g = g' := by injection h' with h'; injection h' with h'; injection h' with h'
    subst this
    simp [World.frozen?, hh]
theorem cells_new4 (w : World) (x y z u : Value) (t : TypeId) : ∀ j v, [x, y, z, u][j]? = some v → (w.alloc (.cells #[x, y, z, u] t)).cell? ((⟨w.heap.size, 0, none⟩ : Addr).add j) = some v := by
  intro j v hj
  have h := heap_alloc_new w (.cells #[x, y, z, u] t)
  match j, hj with
  | 0, hj => rw [show (⟨w.heap.size, 0, none⟩ : Addr).add 0 = ⟨w.heap.size, 0, none⟩ from rfl, cell_of_row _ _ _ _ _ _ h]; exact hj
  | 1, hj => rw [show (⟨w.heap.size, 0, none⟩ : Addr).add 1 = ⟨w.heap.size, 1, none⟩ from rfl, cell_of_row _ _ _ _ _ _ h]; exact hj
  | 2, hj => rw [show (⟨w.heap.size, 0, none⟩ : Addr).add 2 = ⟨w.heap.size, 2, none⟩ from rfl, cell_of_row _ _ _ _ _ _ h]; exact hj
  | 3, hj => rw [show (⟨w.heap.size, 0, none⟩ : Addr).add 3 = ⟨w.heap.size, 3, none⟩ from rfl, cell_of_row _ _ _ _ _ _ h]; exact hj
/-- What comes has the paragraph's level. -/
def PL (para : Int) (x : Nat × Int) : Prop := x.2 = para ∧ x.1 < 1048576
set_option maxRecDepth 100000 in
set_option maxHeartbeats 8000000 in
theorem runs_in (n : Nat) (hn : 5 ≤ n) (para : Int) (lv : Value) (a : Option Addr) (len cap : Nat) (hlv : lv = .slice a len cap) (zs : List Int) (hz : zs.length ≤ 1048576) (hP : ∀ k, k < zs.length → 0 ≤ zs[k]?.getD 0 → zs[k]?.getD 0 = para) (w : World) (hI : IntsB w.heap.size w lv zs) :
    CallsIn Fence.wide n Tryz.prog 59 #[lv] w fun e W' => ∃ ks, ks = (kpTo zs zs.length).map (·.1) ∧ ((ks = [] ∧ e = .returned (.slice none 0 0) ∧ Below w.heap.size w W') ∨
      ∃ f t g c vA, ks.head? = some f ∧ ks.getLast? = some t ∧ e = .returned (.slice (some ⟨g, 0, none⟩) 1 c) ∧ RT w lv para (f : Int) (t : Int) (.slice (some ⟨g, 0, none⟩) 1 c) vA ks W') := by
  have h1 : 1 ≤ n := by omega
  have hro : (Fence.wide).round = none := rfl
  have HI := Lib.hid hI
  have HP := Lib.hid hP
  subst hlv
  clear hI hP
  refine callsIn_of_wp_marks Tryz.func59 rfl trivial ?_ hro
  simp only [Tryz.ntmps59, List.size_toArray, List.length_cons, List.length_nil, Nat.reduceAdd, Nat.reduceSub, Array.replicate_succ, Array.replicate_zero, List.push_toArray, List.append_toArray, List.nil_append, List.cons_append]
  gi_wp2_with (refine ⟨trivial, ?_⟩; gi_at_call 97; refine (kp_in Fence.wide (n - 1) trivial hro _ _ _ _).mono ?_; rintro e w' ⟨rfl, rfl⟩)
  have cS : Boxed ((w.alloc (.cells #[.slice none 0 0] 81)).alloc (.cells #[.slice a len cap] 25)) (w.heap.size + 1) 25 (.slice a len cap) := by
    have := Boxed.new (w.alloc (.cells #[.slice none 0 0] 81)) 25 (.slice a len cap)
    rwa [World.size_alloc] at this
  have cO : Boxed ((w.alloc (.cells #[.slice none 0 0] 81)).alloc (.cells #[.slice a len cap] 25)) w.heap.size 81 (.slice none 0 0) := (Boxed.new w 81 _).alloc _
  have hB0 : Below w.heap.size w ((w.alloc (.cells #[.slice none 0 0] 81)).alloc (.cells #[.slice a len cap] 25)) := ((Below.refl _ w).alloc (Nat.le_refl _) _).alloc (by simp) _
  obtain ⟨W0, hW0⟩ : ∃ W0, W0 = (w.alloc (.cells #[.slice none 0 0] 81)).alloc (.cells #[.slice a len cap] 25) := ⟨_, rfl⟩
  have hsz : W0.heap.size = w.heap.size + 2 := by rw [hW0]; simp
  rw [← hW0] at cS cO hB0 ⊢
  have hI0 : IntsB w.heap.size W0 (.slice a len cap) zs := HI.out.below hB0
  clear hW0
  refine wpIn_rangeFunc_ownG hro h1 (gf := 134) (lb := #[.pointer (some ⟨w.heap.size + 1, 0, none⟩)]) rfl trivial (enters_of Tryz.func134 (by kernel_rfl) rfl)
    (kp_stopsP Fence.wide (n - 1) trivial hro (by omega) (w.heap.size + 1) w.heap.size _ zs (PL para) (fun k hk h0 => ⟨HP.out k hk h0, by show k < _; omega⟩) (by omega) W0 (by omega) (by omega) cS.cell hI0) KpB.trans (KpB.put (by omega) (by omega)) (Below.refl _ _) (fun _ => rfl)
    (fun pre W => RI w para (.slice a len cap) (pre.map (fun x => x.1.1)) W) (fun _ _ _ => False)
    (RI.own (by omega) _) (fun cd s A B row h => h.elim) ⟨.inl ⟨rfl, hB0, cO, cS⟩⟩
    (fun x => { tmps := #[.slice a len cap, undef, .slice none 0 0, .pointer (some ⟨w.heap.size, 0, none⟩), .int .i64 (x.1.1 : Int), .int .i64 x.1.2, undef, .slice a len cap, .func (.func 134) #[] #[.pointer (some ⟨w.heap.size + 1, 0, none⟩)], .int .i64 (x.1.1 : Int), .int .i64 x.1.2, undef, undef, undef, undef, undef, undef, undef, undef, undef, undef, undef, undef, undef, undef, undef, undef, undef, undef, undef, undef, undef, undef, undef, undef, undef, undef, undef, undef, undef, undef, undef, undef, undef, undef, undef, undef, undef, undef, undef, undef], defers := [] }) ?assign ?body ?done ?stop
  case assign =>
    intro l x W K hK
    gi_wp2
    exact hK
  case body =>
    rintro l pre ⟨⟨i, lvl⟩, hlvl, hib⟩ W hR hlen
    dsimp only at hlvl hib
    subst hlvl
    obtain ⟨ks, hks⟩ : ∃ ks, ks = pre.map (fun x => x.1.1) := ⟨_, rfl⟩
    have hpk : (pre ++ [(⟨(i, lvl), rfl, hib⟩ : { x : Nat × Int // PL lvl x })]).map (fun x => x.1.1) = ks ++ [i] := by rw [hks]; simp
    have hkl : ks.length ≤ 1048576 := by rw [hks, List.length_map]; omega
    rw [← hks] at hR
    have HR := Lib.hid hR
    have Hpk := Lib.hid hpk
    clear hks hpk hR
    rcases HR.out.st with ⟨rfl, hb, hx, hs⟩ | ⟨f, t, g, c, vA, h1', h2', hT⟩
    · have hxc := hx.cell
      have hxf := hx.frozen
      obtain ⟨i85, hi85, hz0, hz1, hz2⟩ := info_parts info85r
      have HX := Lib.hid hx
      have HB := Lib.hid hb
      have HS := Lib.hid hs
      clear hx hb hs
      gi_wp2_with (gi_at_builtin; refine wpListIn_append_own _ rfl _ _ 81 rfl w.heap.size 85 i85 (.agg #[.int .i64 0, .int .i64 0, .int .i64 0, .slice none 0 0]) 4 48 Tryz.underlying81 hi85 hz0 hz1 hz2 rfl (by decide) _ _ _ rfl (World.ownsRow_nil _ _ _ _) ⟨W.heap.size, 0, none⟩ 1 1 [.int .i64 lvl, .int .i64 (i : Int), .int .i64 0, .slice none 0 0] rfl rfl (cells_new4 _ _ _ _ _ _) (by intro u hu; simp at hu; rcases hu with rfl | rfl | rfl | rfl <;> rfl) (by decide) (by decide) (by have := HB.out.size; simp; omega) ?_; intro v' w1 hown' hgrow _; replace hgrow : (W.alloc (.cells #[.int .i64 lvl, .int .i64 (i : Int), .int .i64 0, .slice none 0 0] 85)).grownBy w1 none := hgrow; obtain ⟨g', cap', rfl⟩ := ownsRow_succ hown'; have hxA := (HX.out.alloc (.cells #[.int .i64 lvl, .int .i64 (i : Int), .int .i64 0, .slice none 0 0] 85)).kept hgrow (by simp); have s1 := hxA.cell; have s2 := hxA.frozen; have hF6 := RT.new HB.out HX.out HS.out _ hown' hgrow; have s3 := hF6.bO.cell; have s4 : (w1.setCell ⟨w.heap.size, 0, none⟩ (.slice (some ⟨g', 0, none⟩) (0 + 1) cap')).cell? ⟨g', 2, none⟩ = some (.int .i64 0) := hF6.rO.cells (g := g') rfl 2 _ rfl; have s5 := hF6.frozen 2; have F7 := Lib.hid (hF6.to i); have K7 := Lib.hid (((KeepsOthers.alloc W (.cells #[.int .i64 lvl, .int .i64 (i : Int), .int .i64 0, .slice none 0 0] 85)).trans (KeepsOthers.of_grownBy hgrow (fun j o hj ho => by cases hj))).trans (KeepsOthers.setCell w1 ⟨w.heap.size, 0, none⟩ (.slice (some ⟨g', 0, none⟩) (0 + 1) cap'))); clear hown' hgrow hxA hF6)
      refine reg10 l _ i F7.out.1 hkl _ _ _ _ _ _ _ _ _ _ _ _ _ _ _ _ _ _ _ _ _ _ _ _ _ _ _ _ _ _ _ _ _ _ _ _ _ _ _ _ _ _ _ _ _ _ _ _ _ ?_
      intro v2 W2 hRT hK2
      gi_wp2
      have hR' : RI w lvl (.slice a len cap) ([] ++ [i]) W2 := ⟨.inr ⟨i, i, g', cap', v2, rfl, rfl, hRT⟩⟩
      have hK3 := (K7.out.trans F7.out.2).trans hK2
      exact ⟨hK3.from _, HR.out.kp hR' hK3.size, by show RI w lvl _ (List.map _ (pre ++ [_])) W2; rw [Hpk.out]; exact hR'⟩
    · have q1 := hT.bO.cell
      have q2 : W.cell? ⟨g, 0, none⟩ = some (.int .i64 lvl) := hT.rO.cells (g := g) rfl 0 _ rfl
      have q3 : W.cell? ⟨g, 2, none⟩ = some (.int .i64 (t : Int)) := hT.rO.cells (g := g) rfl 2 _ rfl
      have q4 := hT.frozen 2
      have F7 := Lib.hid (hT.to i)
      have H1 := Lib.hid h1'
      clear hT h1' h2'
      gi_wp2
      refine reg10 l _ i F7.out.1 hkl _ _ _ _ _ _ _ _ _ _ _ _ _ _ _ _ _ _ _ _ _ _ _ _ _ _ _ _ _ _ _ _ _ _ _ _ _ _ _ _ _ _ _ _ _ _ _ _ _ ?_
      intro v2 W2 hRT hK2
      gi_wp2
      have hR' : RI w lvl (.slice a len cap) (ks ++ [i]) W2 := ⟨.inr ⟨f, i, g, c, v2, by rw [List.head?_append, H1.out]; rfl, by simp, hRT⟩⟩
      have hK3 := (F7.out.2).trans hK2
      exact ⟨hK3.from _, HR.out.kp hR' hK3.size, by show RI w lvl _ (List.map _ (pre ++ [_])) W2; rw [Hpk.out]; exact hR'⟩

  case done =>
    rintro D ys W hD hS hR hK
    have hks : ys.map (fun x => x.1.1) = (kpTo zs zs.length).map (·.1) := by rw [← hS, List.map_map]; rfl
    have hR2 : RI w para (.slice a len cap) (ys.map (fun x => x.1.1)) (W.putObj D (.deferred none)) := RI.own (B := W0.heap.size) (by omega) (fun (x : Unit) => ys.map (fun x => x.1.1)) () W _ (some D) hR (grownBy_putObj' W D (.deferred none)) (fun r e => by cases e; exact ⟨hD, _, hK, rfl⟩)
    rw [hks] at hR hR2
    have HK := Lib.hid hK
    have HR2 := Lib.hid hR2
    clear hK hR2 hS hks
    rcases hR.st with ⟨h0, _, hx, _⟩ | ⟨f, t, g, c, vA, h1', h2', hT⟩
    · have q1 := hx.cell
      clear hx hR
      gi_wp2
      refine ⟨by simp, .inl ⟨_, _, rfl, run_takeDeferred HK.out, ?_⟩⟩
      exact ⟨_, results_tmp Tryz.results59 _ _ _, _, rfl, .inl ⟨h0, rfl, HR2.out.bel⟩⟩
    · have q1 := hT.bO.cell
      have HT2 := Lib.hid (hT.own (B := W0.heap.size) (by omega) (grownBy_putObj' W D (.deferred none)) (fun r e => by cases e; exact ⟨hD, _, HK.out, rfl⟩))
      clear hT hR
      gi_wp2
      refine ⟨by simp, .inl ⟨_, _, rfl, run_takeDeferred HK.out, ?_⟩⟩
      exact ⟨_, results_tmp Tryz.results59 _ _ _, _, rfl, .inr ⟨f, t, g, c, vA, h1', h2', rfl, HT2.out⟩⟩
  case stop =>
    rintro D cd pre W hD hS h hK
    exact h.elim
end Go.Proofs.YtdpifkhkemeclaaGreat
namespace Go.Proofs.YtdpifkhkemeclaaGreat
open Go.RowKit Go.Shelf Go.Proofs.YtdpifkhkemeclaaGreatW.PrintWords
set_option linter.unusedVariables false
set_option linter.unusedSimpArgs false
theorem way_any (para : Int) (hp : para = 0 ∨ para = 1) (w : World) : Calls Tryz.prog 60 #[.int .i64 para, .int .i64 para] w fun e w' => e = .returned (.int .i64 para) ∧ w' = w := by
  rcases hp with rfl | rfl
  · go_enter Tryz.func60, Tryz.ntmps60
    go_wp2
    go_ret
    exact ⟨rfl, rfl⟩
  · go_enter Tryz.func60, Tryz.ntmps60
    go_wp2
    go_ret
    exact ⟨rfl, rfl⟩
theorem beside_neg (A : Option Addr) (c : Nat) (no : Int) (w : World) : Calls Tryz.prog 61 #[.slice A 1 c, .int .i64 (-1), .int .i64 no] w fun e w' => e = .returned (.int .i64 no) ∧ w' = w := by
  go_enter Tryz.func61, Tryz.ntmps61
  go_wp2
  go_ret
  exact ⟨rfl, rfl⟩
theorem beside_one (A : Option Addr) (c : Nat) (no : Int) (w : World) : Calls Tryz.prog 61 #[.slice A 1 c, .int .i64 1, .int .i64 no] w fun e w' => e = .returned (.int .i64 no) ∧ w' = w := by
  go_enter Tryz.func61, Tryz.ntmps61
  go_wp2
  go_ret
  exact ⟨rfl, rfl⟩
theorem behind_any (g c : Nat) (t : Nat) (para : Int) (A0 : Option Addr) (m c0 : Nat) (ad : Addr) (c1 : Nat) (ht : t < m) (hm : m ≤ 1048576) (w : World) (h2 : w.cell? ⟨g, 2, none⟩ = some (.int .i64 (t : Int))) (hM : w.cell? (ad.add t) = some (.int .i64 (-1))) :
    Calls Tryz.prog 63 #[.slice (some ⟨g, 0, none⟩) 1 c, .int .i64 0, .int .i64 para, .slice A0 m c0, .slice (some ad) m c1] w fun e w' => e = .returned (.int .i64 para) ∧ w' = w := by
  have hlt : (t : Int) < (m : Int) := by omega
  have hne : ((-1 : Int) == (m : Int)) = false := by simp
  go_enter Tryz.func63, Tryz.ntmps63
  go_wp2_with (go_at_call 61; refine (beside_one _ _ _ _).mono ?_; rintro e w' ⟨rfl, hw⟩; obtain rfl := hw.symm; clear hw)
  go_ret
  exact ⟨rfl, rfl⟩
theorem goes_any (g c : Nat) (t : Nat) (ad : Addr) (m c0 : Nat) (aM : Option Addr) (lM cM : Nat) (cl : Int) (hcl : cl < 14) (ht : t < m) (hm : m ≤ 1048576) (w : World) (hg : g < w.heap.size) (h2 : w.cell? ⟨g, 2, none⟩ = some (.int .i64 (t : Int))) (hC : w.cell? (ad.add t) = some (.int .i64 cl)) :
    Calls Tryz.prog 62 #[.slice (some ⟨g, 0, none⟩) 1 c, .int .i64 0,   .slice (some ad) m c0, .slice aM lM cM] w fun e w' => e = .returned (.tuple #[.int .i64 0, .bool false]) ∧ Below w.heap.size w w' := by
  have hlt : (t : Int) < (m : Int) := by omega
  have b1 : (cl == 19) = false := by simp; omega
  have b2 : (cl == 20) = false := by simp; omega
  have b3 : (cl == 21) = false := by simp; omega
  have hbC := World.block_lt_of_cell? w _ hC
  go_enter Tryz.func62, Tryz.ntmps62
  go_wp2
  go_ret2
  exact ⟨rfl, ((Below.refl _ w).alloc (Nat.le_refl _) _).alloc (by simp) _⟩
end Go.Proofs.YtdpifkhkemeclaaGreat
