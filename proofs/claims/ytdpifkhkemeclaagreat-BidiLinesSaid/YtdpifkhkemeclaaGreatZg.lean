/- seqs.Sequences: its regions that draw, where one run stands. seqs.Sequences where nothing embeds, overrides or isolates: one sequence, or none. -/
import Derived.Test.YtdpifkhkemeclaaGreatZf
namespace Go.Proofs.YtdpifkhkemeclaaGreat
open Go.RowKit Go.Shelf Go.Proofs.YtdpifkhkemeclaaGreatW.PrintWords Go.Proofs.YtdpifkhkemeclaaGreatW.PrintLast
set_option linter.unusedVariables false
set_option linter.unusedSimpArgs false
theorem region_plain {P : Program} {ops : Array Oper} {Q : Exit → Act → World → Prop} {S : World → Prop} {ds : List Nat} {id m : Nat} {a : Act} {w : World} (l : Array Bool) (hm : P.follows .mixedOrders = true) (hn : ops.size = m) (hl : Array.replicate m false = l) (hS : S w.drew) (K : Act → World → Prop)
  (h : S w.drew → wpAnyLast P .any ops (fun e a w => e = .normal ∧ K a w) S ds m l a w.drew) (hK : ∀ a w, K a w → Q .normal a w) : (Code.region id ops true).wp P Q a w := by
 subst hn
 subst hl
 exact wp_mono (wp_region_last hm (h hS)) (fun e a w h => by obtain ⟨rfl, h⟩ := h; exact hK a w h)
theorem info50r : (Tryz.prog.info? 50).map (fun i => (i.zero, i.size, i.bytes)) = some (some (.agg #[.int .i64 0, .int .i64 0, .int .i64 0, .slice none 0 0]), 4, 48) := by kernel_rfl
theorem grown_none {W W' : World} (h : W.grownBy W' none) : Below W.heap.size W W' := (Below.refl W.heap.size W).grown h (Nat.le_refl _) (fun k e => by cases e)

set_option maxRecDepth 100000 in
set_option maxHeartbeats 4000000 in
theorem reg12 {B : Nat} {W : World} {b g c : Nat} {para : Int} (hp : para = 0 ∨ para = 1) (hB : B ≤ W.heap.size) (hc : W.cell? ⟨b, 0, none⟩ = some (.int .i64 para)) (t0 t2 t3 t4 t5 t6 t7 t9 t13 t14 t15 t16 t17 t18 t19 t20 t21 t22 t23 t24 t25 t26 t27 t28 t29 t30 t31 t32 t33 t34 t35 t36 t37 t38 t39 t40 t41 t42 t43 t44 t45 t46 t47 t48 t49 t50 t51 t52 t53 t54 t55 t56 t57 t58 t59 t60 t61 t62 t63 t64 t65 t66 t67 t68 t69 t70 t71 t72 t73 t74 t75 t76 t77 t78 t79 t80 t81 t82 t83 t84 t85 t86 t87 t88 t89 t90 t91 t92 t93 t94 t95 t96 t97 t98 t99 : Value) (Q : Exit → Act → World → Prop)
  (hQ : ∀ (v' : Value) (W' : World), W'.ownsRow B 50 4 v' 1 [.int .i64 para, .int .i64 para, .int .i64 0, .slice none 0 0] → Below W.heap.size W W' → Q .normal { tmps := #[t0, .int .i64 para, t2, t3, t4, t5, t6, t7, .slice (some ⟨g, 0, none⟩) 1 c, t9, v', .int .i64 0, .pointer (some ⟨b, 0, none⟩), t13, t14, t15, t16, t17, t18, t19, t20, t21, t22, t23, t24, t25, t26, t27, t28, t29, t30, t31, t32, t33, t34, t35, t36, t37, t38, t39, t40, t41, t42, t43, t44, t45, t46, .slice none 0 0, .pointer (some ⟨b, 0, none⟩), .int .i64 para, .pointer (some ⟨b, 0, none⟩), .int .i64 para, .slice (some ⟨g, 0, none⟩) 1 c, .int .i64 0, .int .i64 (-1), .int .i64 para, .int .i64 para, .int .i64 para, .agg #[.int .i64 para, .int .i64 para, .int .i64 0, .slice none 0 0], .slice (some ⟨W.heap.size, 0, none⟩) 1 1, v', t61, t62, t63, t64, t65, t66, t67, t68, t69, t70, t71, t72, t73, t74, t75, t76, t77, t78, t79, t80, t81, t82, t83, t84, t85, t86, t87, t88, t89, t90, t91, t92, t93, t94, t95, t96, t97, t98, t99], defers := [] } W') :
  (Code.region 12 #[{ dst := some 47, op := Op.move (Operand.tmp 10), type := 47, pos := "seqs.go:89", after := #[], guard := none }, { dst := some 48, op := Op.fieldAddr 85 (Operand.tmp 12) 0, type := 0, pos := "seqs.go:89", after := #[], guard := none }, { dst := some 49, op := Op.load 3 (Operand.tmp 48), type := 3, pos := "seqs.go:89", after := #[{ on := 1, ground := Ground.data }], guard := none }, { dst := some 50, op := Op.fieldAddr 85 (Operand.tmp 12) 0, type := 0, pos := "seqs.go:89", after := #[], guard := none }, { dst := some 51, op := Op.load 3 (Operand.tmp 50), type := 3, pos := "seqs.go:89", after := #[{ on := 3, ground := Ground.data }], guard := none }, { dst := some 52, op := Op.move (Operand.tmp 8), type := 81, pos := "seqs.go:89", after := #[], guard := none }, { dst := some 53, op := Op.move (Operand.tmp 11), type := 3, pos := "seqs.go:89", after := #[], guard := none }, { dst := some 54, op := Op.binOp BinOp.sub 3 (Operand.tmp 53) (Operand.const (Value.int IntKind.i64 1)) 3, type := 3, pos := "seqs.go:89", after := #[{ on := 6, ground := Ground.data }], guard := none }, { dst := some 55, op := Op.move (Operand.tmp 1), type := 3, pos := "seqs.go:89", after := #[], guard := none }, { dst := some 56, op := Op.call { callee := Callee.value (Operand.func 61), args := #[Operand.tmp 52, Operand.tmp 54, Operand.tmp 55], argTypes := #[81, 3, 3] }, type := 3, pos := "seqs.go:89", after := #[{ on := 5, ground := Ground.data }, { on := 7, ground := Ground.data }, { on := 8, ground := Ground.data }], guard := none }, { dst := some 57, op := Op.call { callee := Callee.value (Operand.func 60), args := #[Operand.tmp 51, Operand.tmp 56], argTypes := #[3, 3] }, type := 3, pos := "seqs.go:89", after := #[{ on := 4, ground := Ground.data }, { on := 9, ground := Ground.data }, { on := 9, ground := Ground.chain }], guard := none }, { dst := some 58, op := Op.build 50 #[(0, Operand.tmp 49), (1, Operand.tmp 57)], type := 50, pos := "seqs.go:89", after := #[{ on := 2, ground := Ground.data }, { on := 10, ground := Ground.data }], guard := none }, { dst := some 59, op := Op.buildSlice 47 1 #[(0, Operand.tmp 58)], type := 47, pos := "seqs.go:89", after := #[{ on := 11, ground := Ground.data }], guard := none }, { dst := some 60, op := Op.call { callee := Callee.builtin Builtin.append, args := #[Operand.tmp 47, Operand.tmp 59], argTypes := #[47, 47] }, type := 47, pos := "seqs.go:89", after := #[{ on := 0, ground := Ground.data }, { on := 12, ground := Ground.data }, { on := 10, ground := Ground.chain }], guard := none }, { dst := some 10, op := Op.assign (Operand.tmp 60), type := 47, pos := "seqs.go:89", after := #[{ on := 13, ground := Ground.data }, { on := 13, ground := Ground.chain }, { on := 0, ground := Ground.phase }, { on := 1, ground := Ground.phase }, { on := 2, ground := Ground.phase }, { on := 3, ground := Ground.phase }, { on := 4, ground := Ground.phase }, { on := 5, ground := Ground.phase }, { on := 6, ground := Ground.phase }, { on := 7, ground := Ground.phase }, { on := 8, ground := Ground.phase }, { on := 9, ground := Ground.phase }, { on := 10, ground := Ground.phase }, { on := 11, ground := Ground.phase }, { on := 12, ground := Ground.phase }, { on := 13, ground := Ground.phase }], guard := none }] true).wp Tryz.prog Q { tmps := #[t0, .int .i64 para, t2, t3, t4, t5, t6, t7, .slice (some ⟨g, 0, none⟩) 1 c, t9, .slice none 0 0, .int .i64 0, .pointer (some ⟨b, 0, none⟩), t13, t14, t15, t16, t17, t18, t19, t20, t21, t22, t23, t24, t25, t26, t27, t28, t29, t30, t31, t32, t33, t34, t35, t36, t37, t38, t39, t40, t41, t42, t43, t44, t45, t46, t47, t48, t49, t50, t51, t52, t53, t54, t55, t56, t57, t58, t59, t60, t61, t62, t63, t64, t65, t66, t67, t68, t69, t70, t71, t72, t73, t74, t75, t76, t77, t78, t79, t80, t81, t82, t83, t84, t85, t86, t87, t88, t89, t90, t91, t92, t93, t94, t95, t96, t97, t98, t99], defers := [] } W := by
 have hc0 : W.drew.cell? ⟨b, 0, none⟩ = some (.int .i64 para) := hc
 refine region_plain (m := 15) (S := fun w' => w'.cell? ⟨b, 0, none⟩ = some (.int .i64 para)) (ds := []) #[false, false, false, false, false, false, false, false, false, false, false, false, false, false, false] (by kernel_rfl) rfl rfl hc0
  (fun a' W' => ∃ v', a' = { tmps := #[t0, .int .i64 para, t2, t3, t4, t5, t6, t7, .slice (some ⟨g, 0, none⟩) 1 c, t9, v', .int .i64 0, .pointer (some ⟨b, 0, none⟩), t13, t14, t15, t16, t17, t18, t19, t20, t21, t22, t23, t24, t25, t26, t27, t28, t29, t30, t31, t32, t33, t34, t35, t36, t37, t38, t39, t40, t41, t42, t43, t44, t45, t46, .slice none 0 0, .pointer (some ⟨b, 0, none⟩), .int .i64 para, .pointer (some ⟨b, 0, none⟩), .int .i64 para, .slice (some ⟨g, 0, none⟩) 1 c, .int .i64 0, .int .i64 (-1), .int .i64 para, .int .i64 para, .int .i64 para, .agg #[.int .i64 para, .int .i64 para, .int .i64 0, .slice none 0 0], .slice (some ⟨W.heap.size, 0, none⟩) 1 1, v', t61, t62, t63, t64, t65, t66, t67, t68, t69, t70, t71, t72, t73, t74, t75, t76, t77, t78, t79, t80, t81, t82, t83, t84, t85, t86, t87, t88, t89, t90, t91, t92, t93, t94, t95, t96, t97, t98, t99], defers := [] } ∧ W'.ownsRow B 50 4 v' 1 [.int .i64 para, .int .i64 para, .int .i64 0, .slice none 0 0] ∧ Below W.heap.size W W') (fun hHeld => ?_) (fun a' W' ⟨v', e, h1, h2⟩ => by subst e; exact hQ v' W' h1 h2)
 have hBW : Below W.heap.size W W.drew := (Below.refl _ W).drew
 have hsz : Hid (W.drew.heap.size = W.heap.size) := Lib.hid rfl
 have hbb := World.block_lt_of_cell? W.drew _ hc0
 generalize W.drew = w1 at hc0 hHeld hBW hsz hbb ⊢
 refine pure_ (i := 0) (N := some 47) (v := ?_) (a' := ?_) #[true, false, false, false, false, false, false, false, false, false, false, false, false, false, false] rfl rfl (by kernel_rfl) (fun _ _ _ h => by cases h.1) (Or.inl ⟨by rfl, ?_⟩) ?_ ?_
 rotate_left
 ·intro w'
  go_simp
  with_reducible rfl
 rotate_left
 ·simp only [Act.put, List.setIfInBounds_toArray, List.set_cons_zero, List.set_cons_succ, i64_w, i32_w]
  rfl
 refine pure_ (i := 1) (N := some 48) (v := ?_) (a' := ?_) #[true, true, false, false, false, false, false, false, false, false, false, false, false, false, false] rfl rfl (by kernel_rfl) (fun _ _ _ h => by cases h.1) (Or.inl ⟨by rfl, ?_⟩) ?_ ?_
 rotate_left
 ·intro w'
  go_simp
  with_reducible rfl
 rotate_left
 ·simp only [Act.put, List.setIfInBounds_toArray, List.set_cons_zero, List.set_cons_succ, i64_w, i32_w]
  rfl
 refine pure_ (i := 3) (N := some 50) (v := ?_) (a' := ?_) #[true, true, false, true, false, false, false, false, false, false, false, false, false, false, false] rfl rfl (by kernel_rfl) (fun _ _ _ h => by cases h.1) (Or.inl ⟨by rfl, ?_⟩) ?_ ?_
 rotate_left
 ·intro w'
  go_simp
  with_reducible rfl
 rotate_left
 ·simp only [Act.put, List.setIfInBounds_toArray, List.set_cons_zero, List.set_cons_succ, i64_w, i32_w]
  rfl
 refine pure_ (i := 5) (N := some 52) (v := ?_) (a' := ?_) #[true, true, false, true, false, true, false, false, false, false, false, false, false, false, false] rfl rfl (by kernel_rfl) (fun _ _ _ h => by cases h.1) (Or.inl ⟨by rfl, ?_⟩) ?_ ?_
 rotate_left
 ·intro w'
  go_simp
  with_reducible rfl
 rotate_left
 ·simp only [Act.put, List.setIfInBounds_toArray, List.set_cons_zero, List.set_cons_succ, i64_w, i32_w]
  rfl
 refine pure_ (i := 6) (N := some 53) (v := ?_) (a' := ?_) #[true, true, false, true, false, true, true, false, false, false, false, false, false, false, false] rfl rfl (by kernel_rfl) (fun _ _ _ h => by cases h.1) (Or.inl ⟨by rfl, ?_⟩) ?_ ?_
 rotate_left
 ·intro w'
  go_simp
  with_reducible rfl
 rotate_left
 ·simp only [Act.put, List.setIfInBounds_toArray, List.set_cons_zero, List.set_cons_succ, i64_w, i32_w]
  rfl
 refine pure_ (i := 7) (N := some 54) (v := ?_) (a' := ?_) #[true, true, false, true, false, true, true, true, false, false, false, false, false, false, false] rfl rfl (by kernel_rfl) (fun _ _ _ h => by cases h.1) (Or.inl ⟨by rfl, ?_⟩) ?_ ?_
 rotate_left
 ·intro w'
  go_simp
  with_reducible rfl
 rotate_left
 ·simp only [Act.put, List.setIfInBounds_toArray, List.set_cons_zero, List.set_cons_succ, i64_w, i32_w]
  rfl
 rw [show wrap64 (-1) = -1 from by kernel_rfl]
 refine pure_ (i := 8) (N := some 55) (v := ?_) (a' := ?_) #[true, true, false, true, false, true, true, true, true, false, false, false, false, false, false] rfl rfl (by kernel_rfl) (fun _ _ _ h => by cases h.1) (Or.inl ⟨by rfl, ?_⟩) ?_ ?_
 rotate_left
 ·intro w'
  go_simp
  with_reducible rfl
 rotate_left
 ·simp only [Act.put, List.setIfInBounds_toArray, List.set_cons_zero, List.set_cons_succ, i64_w, i32_w]
  rfl
 refine take_ (i := 2) (N := some 49) (v := ?_) (a' := ?_) #[true, true, true, true, false, true, true, true, true, false, false, false, false, false, false] rfl rfl (by kernel_rfl) (fun _ _ _ h => by cases h.1) (Or.inl ⟨by rfl, ?_⟩) hHeld ?_ ?_
 rotate_left
 ·rintro w' s0
  go_simp
  with_reducible rfl
 rotate_left
 ·simp only [Act.put, List.setIfInBounds_toArray, List.set_cons_zero, List.set_cons_succ, i64_w, i32_w]
  rfl
 refine take_ (i := 4) (N := some 51) (v := ?_) (a' := ?_) #[true, true, true, true, true, true, true, true, true, false, false, false, false, false, false] rfl rfl (by kernel_rfl) (fun _ _ _ h => by cases h.1) (Or.inl ⟨by rfl, ?_⟩) hHeld ?_ ?_
 rotate_left
 ·rintro w' s0
  go_simp
  with_reducible rfl
 rotate_left
 ·simp only [Act.put, List.setIfInBounds_toArray, List.set_cons_zero, List.set_cons_succ, i64_w, i32_w]
  rfl
 refine one_ (i := 9) (N := some 56) #[true, true, true, true, true, true, true, true, true, true, false, false, false, false, false] rfl rfl (by kernel_rfl) (by decide) (fun K hK => ?_)
 go_simp
 go_at_call 61
 refine (beside_neg _ _ _ _).mono ?_
 rintro e w' ⟨rfl, hw⟩
 obtain rfl := hw.symm
 clear hw
 refine hK.out _ _ hHeld (fun hHeld => ?_)
 clear hK K
 refine one_ (i := 10) (N := some 57) #[true, true, true, true, true, true, true, true, true, true, true, false, false, false, false] rfl rfl (by kernel_rfl) (by decide) (fun K hK => ?_)
 go_simp
 go_at_call 60
 refine (way_any _ hp _).mono ?_
 rintro e w' ⟨rfl, hw⟩
 obtain rfl := hw.symm
 clear hw
 refine hK.out _ _ hHeld (fun hHeld => ?_)
 clear hK K
 refine pure_ (i := 11) (N := some 58) (v := ?_) (a' := ?_) #[true, true, true, true, true, true, true, true, true, true, true, true, false, false, false] rfl rfl (by kernel_rfl) (fun _ _ _ h => by cases h.1) (Or.inl ⟨by rfl, ?_⟩) ?_ ?_
 rotate_left
 ·intro w'
  go_simp
  with_reducible rfl
 rotate_left
 ·simp only [Act.put, List.setIfInBounds_toArray, List.set_cons_zero, List.set_cons_succ, i64_w, i32_w]
  rfl
 refine one_ (i := 12) (N := some 59) #[true, true, true, true, true, true, true, true, true, true, true, true, true, false, false] rfl rfl (by kernel_rfl) (by decide) (fun K hK => ?_)
 go_simp
 have hA : Below w1.heap.size w1 (w1.alloc (.cells #[.int .i64 para, .int .i64 para, .int .i64 0, .slice none 0 0] 50)) := (Below.refl _ _).alloc (Nat.le_refl _) _
 have hnew := cells_new4 w1 (.int .i64 para) (.int .i64 para) (.int .i64 0) (.slice none 0 0) 50
 refine hK.out _ _ ((hA.cell (p := ⟨b, 0, none⟩) hbb).trans hHeld) (fun hHeld => ?_)
 clear hK K
 obtain ⟨i50, hi50, hz0, hz1, hz2⟩ := info_parts info50r
 refine one_ (i := 13) (N := some 60) #[true, true, true, true, true, true, true, true, true, true, true, true, true, true, false] rfl rfl (by kernel_rfl) (by decide) (fun K hK => ?_)
 refine step_append_own rfl (.tmp 47) (.tmp 59) 47 rfl B 50 i50 (.agg #[.int .i64 0, .int .i64 0, .int .i64 0, .slice none 0 0]) 4 48 Tryz.underlying47 hi50 hz0 hz1 hz2 rfl (by decide) (.slice none 0 0) 0 [] rfl (World.ownsRow_nil _ _ _ _) ⟨w1.heap.size, 0, none⟩ 1 1 [.int .i64 para, .int .i64 para, .int .i64 0, .slice none 0 0] rfl rfl hnew
  (by intro u hu; simp at hu; rcases hu with rfl | rfl | rfl | rfl <;> rfl) (by decide) (by decide) (by have := hsz.out; simp; omega) ?_
 intro v' w2 hown' hgrow
 have hG := grown_none hgrow
 refine hK.out _ _ ((hG.cell (p := ⟨b, 0, none⟩) (by rw [World.size_alloc]; exact Nat.lt_succ_of_lt hbb)).trans hHeld) (fun hHeld => ?_)
 clear hK K
 refine norm_ (a' := ?_) ?_ ?_
 rotate_left
 ·show Act.put _ (some 60) _ = _
  simp only [Act.put, List.setIfInBounds_toArray, List.set_cons_zero, List.set_cons_succ, i64_w, i32_w]
  rfl
 refine pure_ (i := 14) (N := some 10) (v := ?_) (a' := ?_) #[true, true, true, true, true, true, true, true, true, true, true, true, true, true, true] rfl rfl (by kernel_rfl) (fun _ _ _ h => by cases h.1) (Or.inl ⟨by rfl, ?_⟩) ?_ ?_
 rotate_left
 ·intro w'
  go_simp
  with_reducible rfl
 rotate_left
 ·simp only [Act.put, List.setIfInBounds_toArray, List.set_cons_zero, List.set_cons_succ, i64_w, i32_w]
  rfl
 refine done_ (by kernel_rfl) ?_
 exact ⟨rfl, v', by rw [← hsz.out], hown', hBW.trans (((hA.trans (hG.mono (by simp)))).mono (by rw [hsz.out]; exact Nat.le_refl _))⟩
set_option maxRecDepth 100000 in
set_option maxHeartbeats 4000000 in
theorem reg14 {B : Nat} {W : World} {b g ga m ca : Nat} (ks : List Nat) (hm : ks.length = m) (hm1 : m ≤ 1048576) (hB : B ≤ W.heap.size) (hc0 : W.cell? ⟨g, 3, none⟩ = some (.slice none 0 0)) (hf : W.frozen? ⟨g, 3, none⟩ = false) (hc1 : W.cell? ⟨b, 3, none⟩ = some (.slice (some ⟨ga, 0, none⟩) m ca)) (hA : W.ownsRow B 3 1 (.slice (some ⟨ga, 0, none⟩) m ca) m (icells ks)) (t0 t1 t2 t3 t4 t5 t6 t7 t8 t9 t10 t11 t13 t14 t16 t17 t18 t19 t20 t21 t22 t23 t24 t25 t26 t27 t28 t29 t30 t31 t32 t33 t34 t35 t36 t37 t38 t39 t40 t41 t42 t43 t44 t45 t46 t47 t48 t49 t50 t51 t52 t53 t54 t55 t56 t57 t58 t59 t60 t61 t62 t63 t64 t65 t66 t67 t68 t69 t70 t71 t72 t73 t74 t75 t76 t77 t78 t79 t80 t81 t82 t83 t84 t85 t86 t87 t88 t89 t90 t91 t92 t93 t94 t95 t96 t97 t98 t99 : Value) (Q : Exit → Act → World → Prop)
  (hQ : ∀ (v' : Value) (W1 : World), W1.ownsRow B 3 1 v' m (icells ks) → Below W.heap.size W W1 → Q .normal { tmps := #[t0, t1, t2, t3, t4, t5, t6, t7, t8, t9, t10, t11, .pointer (some ⟨b, 0, none⟩), t13, t14, .pointer (some ⟨g, 0, none⟩), t16, t17, t18, t19, t20, t21, t22, t23, t24, t25, t26, t27, t28, t29, t30, t31, t32, t33, t34, t35, t36, t37, t38, t39, t40, t41, t42, t43, t44, t45, t46, t47, t48, t49, t50, t51, t52, t53, t54, t55, t56, t57, t58, t59, t60, t61, t62, t63, .pointer (some ⟨g, 0, none⟩), .pointer (some ⟨g, 0, none⟩), .pointer (some ⟨g, 0, none⟩), .pointer (some ⟨g, 3, none⟩), .slice none 0 0, .pointer (some ⟨b, 3, none⟩), .slice (some ⟨ga, 0, none⟩) m ca, v', .pointer (some ⟨g, 0, none⟩), .pointer (some ⟨g, 3, none⟩), t74, t75, t76, t77, t78, t79, t80, t81, t82, t83, t84, t85, t86, t87, t88, t89, t90, t91, t92, t93, t94, t95, t96, t97, t98, t99], defers := [] } (W1.setCell ⟨g, 3, none⟩ v')) :
  (Code.region 14 #[{ dst := some 64, op := Op.move (Operand.tmp 15), type := 87, pos := "seqs.go:92", after := #[], guard := none }, { dst := some 65, op := Op.move (Operand.tmp 15), type := 87, pos := "seqs.go:92", after := #[], guard := none }, { dst := some 66, op := Op.nilCheck (Operand.tmp 65), type := 0, pos := "seqs.go:92", after := #[{ on := 1, ground := Ground.data }], guard := none }, { dst := some 67, op := Op.fieldAddr 50 (Operand.tmp 66) 3, type := 0, pos := "seqs.go:92", after := #[{ on := 2, ground := Ground.data }], guard := none }, { dst := some 68, op := Op.load 25 (Operand.tmp 67), type := 25, pos := "seqs.go:92", after := #[{ on := 3, ground := Ground.data }], guard := none }, { dst := some 69, op := Op.fieldAddr 85 (Operand.tmp 12) 3, type := 0, pos := "seqs.go:92", after := #[], guard := none }, { dst := some 70, op := Op.load 25 (Operand.tmp 69), type := 25, pos := "seqs.go:92", after := #[{ on := 5, ground := Ground.data }], guard := none }, { dst := some 71, op := Op.call { callee := Callee.builtin Builtin.append, args := #[Operand.tmp 68, Operand.tmp 70], argTypes := #[25, 25] }, type := 25, pos := "seqs.go:92", after := #[{ on := 4, ground := Ground.data }, { on := 6, ground := Ground.data }], guard := none }, { dst := some 72, op := Op.nilCheck (Operand.tmp 64), type := 0, pos := "seqs.go:92", after := #[{ on := 0, ground := Ground.data }, { on := 0, ground := Ground.phase }, { on := 1, ground := Ground.phase }, { on := 2, ground := Ground.phase }, { on := 3, ground := Ground.phase }, { on := 4, ground := Ground.phase }, { on := 5, ground := Ground.phase }, { on := 6, ground := Ground.phase }, { on := 7, ground := Ground.phase }], guard := none }, { dst := some 73, op := Op.fieldAddr 50 (Operand.tmp 72) 3, type := 0, pos := "seqs.go:92", after := #[{ on := 8, ground := Ground.data }, { on := 0, ground := Ground.phase }, { on := 1, ground := Ground.phase }, { on := 2, ground := Ground.phase }, { on := 3, ground := Ground.phase }, { on := 4, ground := Ground.phase }, { on := 5, ground := Ground.phase }, { on := 6, ground := Ground.phase }, { on := 7, ground := Ground.phase }], guard := none }, { dst := none, op := Op.store 25 (Operand.tmp 73) (Operand.tmp 71), type := 0, pos := "seqs.go:92", after := #[{ on := 9, ground := Ground.data }, { on := 7, ground := Ground.data }, { on := 7, ground := Ground.chain }, { on := 0, ground := Ground.phase }, { on := 1, ground := Ground.phase }, { on := 2, ground := Ground.phase }, { on := 3, ground := Ground.phase }, { on := 4, ground := Ground.phase }, { on := 5, ground := Ground.phase }, { on := 6, ground := Ground.phase }, { on := 7, ground := Ground.phase }], guard := none }] true).wp Tryz.prog Q { tmps := #[t0, t1, t2, t3, t4, t5, t6, t7, t8, t9, t10, t11, .pointer (some ⟨b, 0, none⟩), t13, t14, .pointer (some ⟨g, 0, none⟩), t16, t17, t18, t19, t20, t21, t22, t23, t24, t25, t26, t27, t28, t29, t30, t31, t32, t33, t34, t35, t36, t37, t38, t39, t40, t41, t42, t43, t44, t45, t46, t47, t48, t49, t50, t51, t52, t53, t54, t55, t56, t57, t58, t59, t60, t61, t62, t63, t64, t65, t66, t67, t68, t69, t70, t71, t72, t73, t74, t75, t76, t77, t78, t79, t80, t81, t82, t83, t84, t85, t86, t87, t88, t89, t90, t91, t92, t93, t94, t95, t96, t97, t98, t99], defers := [] } W := by
 have hd0 : W.drew.cell? ⟨g, 3, none⟩ = some (.slice none 0 0) := hc0
 have hd1 : W.drew.cell? ⟨b, 3, none⟩ = some (.slice (some ⟨ga, 0, none⟩) m ca) := hc1
 have hdf : W.drew.frozen? ⟨g, 3, none⟩ = false := hf
 have hdA : W.drew.ownsRow B 3 1 (.slice (some ⟨ga, 0, none⟩) m ca) m (icells ks) := pw_own_below hA (Below.refl _ _).drew
 refine region_plain (m := 11) (S := fun w' => w'.cell? ⟨g, 3, none⟩ = some (.slice none 0 0) ∧ w'.cell? ⟨b, 3, none⟩ = some (.slice (some ⟨ga, 0, none⟩) m ca)) (ds := [10]) #[false, false, false, false, false, false, false, false, false, false, false] (by kernel_rfl) rfl rfl ⟨hd0, hd1⟩
  (fun a' W' => ∃ v' W1, a' = { tmps := #[t0, t1, t2, t3, t4, t5, t6, t7, t8, t9, t10, t11, .pointer (some ⟨b, 0, none⟩), t13, t14, .pointer (some ⟨g, 0, none⟩), t16, t17, t18, t19, t20, t21, t22, t23, t24, t25, t26, t27, t28, t29, t30, t31, t32, t33, t34, t35, t36, t37, t38, t39, t40, t41, t42, t43, t44, t45, t46, t47, t48, t49, t50, t51, t52, t53, t54, t55, t56, t57, t58, t59, t60, t61, t62, t63, .pointer (some ⟨g, 0, none⟩), .pointer (some ⟨g, 0, none⟩), .pointer (some ⟨g, 0, none⟩), .pointer (some ⟨g, 3, none⟩), .slice none 0 0, .pointer (some ⟨b, 3, none⟩), .slice (some ⟨ga, 0, none⟩) m ca, v', .pointer (some ⟨g, 0, none⟩), .pointer (some ⟨g, 3, none⟩), t74, t75, t76, t77, t78, t79, t80, t81, t82, t83, t84, t85, t86, t87, t88, t89, t90, t91, t92, t93, t94, t95, t96, t97, t98, t99], defers := [] } ∧ W1.ownsRow B 3 1 v' m (icells ks) ∧ Below W.heap.size W W1 ∧ W' = W1.setCell ⟨g, 3, none⟩ v') (fun hHeld => ?_) (fun a' W' ⟨v', W1, e, h1, h2, h3⟩ => by subst e; subst h3; exact hQ v' W1 h1 h2)
 have hBW : Below W.heap.size W W.drew := (Below.refl _ W).drew
 have hsz : Hid (W.drew.heap.size = W.heap.size) := Lib.hid rfl
 have hbg := World.block_lt_of_cell? W.drew _ hd0
 have hbb := World.block_lt_of_cell? W.drew _ hd1
 generalize W.drew = w1 at hd0 hd1 hdf hdA hHeld hBW hsz hbg hbb ⊢
 refine pure_ (i := 0) (N := some 64) (v := ?_) (a' := ?_) #[true, false, false, false, false, false, false, false, false, false, false] rfl rfl (by kernel_rfl) (fun _ _ _ h => by cases h.1) (Or.inl ⟨by rfl, ?_⟩) ?_ ?_
 rotate_left
 ·intro w'
  go_simp
  with_reducible rfl
 rotate_left
 ·simp only [Act.put, List.setIfInBounds_toArray, List.set_cons_zero, List.set_cons_succ, i64_w, i32_w]
  rfl
 refine pure_ (i := 1) (N := some 65) (v := ?_) (a' := ?_) #[true, true, false, false, false, false, false, false, false, false, false] rfl rfl (by kernel_rfl) (fun _ _ _ h => by cases h.1) (Or.inl ⟨by rfl, ?_⟩) ?_ ?_
 rotate_left
 ·intro w'
  go_simp
  with_reducible rfl
 rotate_left
 ·simp only [Act.put, List.setIfInBounds_toArray, List.set_cons_zero, List.set_cons_succ, i64_w, i32_w]
  rfl
 refine pure_ (i := 2) (N := some 66) (v := ?_) (a' := ?_) #[true, true, true, false, false, false, false, false, false, false, false] rfl rfl (by kernel_rfl) (fun _ _ _ h => by cases h.1) (Or.inl ⟨by rfl, ?_⟩) ?_ ?_
 rotate_left
 ·intro w'
  go_simp
  with_reducible rfl
 rotate_left
 ·simp only [Act.put, List.setIfInBounds_toArray, List.set_cons_zero, List.set_cons_succ, i64_w, i32_w]
  rfl
 refine pure_ (i := 3) (N := some 67) (v := ?_) (a' := ?_) #[true, true, true, true, false, false, false, false, false, false, false] rfl rfl (by kernel_rfl) (fun _ _ _ h => by cases h.1) (Or.inl ⟨by rfl, ?_⟩) ?_ ?_
 rotate_left
 ·intro w'
  go_simp
  with_reducible rfl
 rotate_left
 ·simp only [Act.put, List.setIfInBounds_toArray, List.set_cons_zero, List.set_cons_succ, i64_w, i32_w]
  rfl
 refine pure_ (i := 5) (N := some 69) (v := ?_) (a' := ?_) #[true, true, true, true, false, true, false, false, false, false, false] rfl rfl (by kernel_rfl) (fun _ _ _ h => by cases h.1) (Or.inl ⟨by rfl, ?_⟩) ?_ ?_
 rotate_left
 ·intro w'
  go_simp
  with_reducible rfl
 rotate_left
 ·simp only [Act.put, List.setIfInBounds_toArray, List.set_cons_zero, List.set_cons_succ, i64_w, i32_w]
  rfl
 refine take_ (i := 4) (N := some 68) (v := ?_) (a' := ?_) #[true, true, true, true, true, true, false, false, false, false, false] rfl rfl (by kernel_rfl) (fun _ _ _ h => by cases h.1) (Or.inl ⟨by rfl, ?_⟩) hHeld ?_ ?_
 rotate_left
 ·rintro w' ⟨s0, s1⟩
  go_simp
  with_reducible rfl
 rotate_left
 ·simp only [Act.put, List.setIfInBounds_toArray, List.set_cons_zero, List.set_cons_succ, i64_w, i32_w]
  rfl
 refine take_ (i := 6) (N := some 70) (v := ?_) (a' := ?_) #[true, true, true, true, true, true, true, false, false, false, false] rfl rfl (by kernel_rfl) (fun _ _ _ h => by cases h.1) (Or.inl ⟨by rfl, ?_⟩) hHeld ?_ ?_
 rotate_left
 ·rintro w' ⟨s0, s1⟩
  go_simp
  with_reducible rfl
 rotate_left
 ·simp only [Act.put, List.setIfInBounds_toArray, List.set_cons_zero, List.set_cons_succ, i64_w, i32_w]
  rfl
 refine one_ (i := 7) (N := some 71) #[true, true, true, true, true, true, true, true, false, false, false] rfl rfl (by kernel_rfl) (by decide) (fun K hK => ?_)
 obtain ⟨i3, hi3, hz0, hz1, hz2⟩ := info_parts info3r
 refine step_append_own rfl (.tmp 68) (.tmp 70) 25 rfl B 3 i3 (.int .i64 0) 1 8 Tryz.underlying25 hi3 hz0 hz1 hz2 rfl (by decide) (.slice none 0 0) 0 [] rfl (World.ownsRow_nil _ _ _ _) ⟨ga, 0, none⟩ m ca (icells ks) rfl (by rw [Nat.mul_one, ← hm]; simp [icells]) (hdA.cells (g := ga) rfl)
  (by intro u hu; simp [icells] at hu; obtain ⟨i, _, rfl⟩ := hu; rfl) (by unfold maxLen; omega) (by omega) (by have := hsz.out; omega) ?_
 intro v' w2 hown' hgrow
 rw [Nat.zero_add, List.nil_append] at hown'
 have hG := grown_none hgrow
 have q0 := (hG.cell (p := ⟨g, 3, none⟩) hbg).trans hd0
 have q1 := (hG.cell (p := ⟨b, 3, none⟩) hbb).trans hd1
 have q2 : w2.frozen? ⟨g, 3, none⟩ = false := (hG.frozen (p := ⟨g, 3, none⟩) hbg).trans hdf
 obtain ⟨A', c', rfl⟩ := own_slice hown'
 refine hK.out _ _ ⟨q0, q1⟩ (fun hHeld => ?_)
 clear hK K
 refine norm_ (a' := ?_) ?_ ?_
 rotate_left
 ·show Act.put _ (some 71) _ = _
  simp only [Act.put, List.setIfInBounds_toArray, List.set_cons_zero, List.set_cons_succ, i64_w, i32_w]
  rfl
 refine pure_ (i := 8) (N := some 72) (v := ?_) (a' := ?_) #[true, true, true, true, true, true, true, true, true, false, false] rfl rfl (by kernel_rfl) (fun _ _ _ h => by cases h.1) (Or.inl ⟨by rfl, ?_⟩) ?_ ?_
 rotate_left
 ·intro w'
  go_simp
  with_reducible rfl
 rotate_left
 ·simp only [Act.put, List.setIfInBounds_toArray, List.set_cons_zero, List.set_cons_succ, i64_w, i32_w]
  rfl
 refine pure_ (i := 9) (N := some 73) (v := ?_) (a' := ?_) #[true, true, true, true, true, true, true, true, true, true, false] rfl rfl (by kernel_rfl) (fun _ _ _ h => by cases h.1) (Or.inl ⟨by rfl, ?_⟩) ?_ ?_
 rotate_left
 ·intro w'
  go_simp
  with_reducible rfl
 rotate_left
 ·simp only [Act.put, List.setIfInBounds_toArray, List.set_cons_zero, List.set_cons_succ, i64_w, i32_w]
  rfl
 refine last_ (i := 10) (N := none) #[true, true, true, true, true, true, true, true, true, true, true] rfl rfl (by kernel_rfl) (by decide) (fun K hK => ?_)
 go_simp
 refine hK.out _ _ ?_
 refine done_ (by kernel_rfl) ?_
 exact ⟨rfl, _, w2, rfl, hown', hBW.trans (hG.mono (by rw [hsz.out]; exact Nat.le_refl _)), rfl⟩
set_option maxRecDepth 100000 in
set_option maxHeartbeats 4000000 in
theorem reg18 {W : World} {b g c q : Nat} {para x : Int} (hp : para = 0 ∨ para = 1) {A0 : Option Addr} {m c0 c1 t : Nat} {ad : Addr} (ht : t < m) (hm : m ≤ 1048576) (hc0 : W.cell? ⟨b, 0, none⟩ = some (.int .i64 para)) (hc1 : W.cell? ⟨g, 2, none⟩ = some (.int .i64 (t : Int))) (hc2 : W.cell? (ad.add t) = some (.int .i64 (-1)))
  (hq : W.cell? ⟨q, 2, none⟩ = some (.int .i64 x)) (hf : W.frozen? ⟨q, 2, none⟩ = false) (t2 t3 t4 t5 t6 t9 t10 t13 t14 t16 t17 t18 t19 t20 t21 t22 t23 t24 t25 t26 t27 t28 t29 t30 t31 t32 t33 t34 t35 t36 t37 t38 t39 t40 t41 t42 t43 t44 t45 t46 t47 t48 t49 t50 t51 t52 t53 t54 t55 t56 t57 t58 t59 t60 t61 t62 t63 t64 t65 t66 t67 t68 t69 t70 t71 t72 t73 t74 t75 t76 t77 t78 t79 t80 t81 t82 t83 t84 t85 t86 t87 t88 t89 t90 t91 t92 t93 t94 t95 t96 t97 t98 t99 : Value) (Q : Exit → Act → World → Prop)
  (hQ : Q .normal { tmps := #[.slice A0 m c0, .int .i64 para, t2, t3, t4, t5, t6, .slice (some ad) m c1, .slice (some ⟨g, 0, none⟩) 1 c, t9, t10, .int .i64 0, .pointer (some ⟨b, 0, none⟩), t13, t14, .pointer (some ⟨q, 0, none⟩), t16, t17, t18, t19, t20, t21, t22, t23, t24, t25, t26, t27, t28, t29, t30, t31, t32, t33, t34, t35, t36, t37, t38, t39, t40, t41, t42, t43, t44, t45, t46, t47, t48, t49, t50, t51, t52, t53, t54, t55, t56, t57, t58, t59, t60, t61, t62, t63, t64, t65, t66, t67, t68, t69, t70, t71, t72, t73, t74, t75, t76, t77, t78, t79, t80, t81, t82, t83, t84, t85, .pointer (some ⟨q, 0, none⟩), .pointer (some ⟨b, 0, none⟩), .int .i64 para, .slice (some ⟨g, 0, none⟩) 1 c, .int .i64 0, .int .i64 para, .slice A0 m c0, .slice (some ad) m c1, .int .i64 para, .int .i64 para, .pointer (some ⟨q, 0, none⟩), .pointer (some ⟨q, 2, none⟩), t98, t99], defers := [] } (W.drew.setCell ⟨q, 2, none⟩ (.int .i64 para))) :
  (Code.region 18 #[{ dst := some 86, op := Op.move (Operand.tmp 15), type := 87, pos := "seqs.go:96", after := #[], guard := none }, { dst := some 87, op := Op.fieldAddr 85 (Operand.tmp 12) 0, type := 0, pos := "seqs.go:96", after := #[], guard := none }, { dst := some 88, op := Op.load 3 (Operand.tmp 87), type := 3, pos := "seqs.go:96", after := #[{ on := 1, ground := Ground.data }], guard := none }, { dst := some 89, op := Op.move (Operand.tmp 8), type := 81, pos := "seqs.go:96", after := #[], guard := none }, { dst := some 90, op := Op.move (Operand.tmp 11), type := 3, pos := "seqs.go:96", after := #[], guard := none }, { dst := some 91, op := Op.move (Operand.tmp 1), type := 3, pos := "seqs.go:96", after := #[], guard := none }, { dst := some 92, op := Op.move (Operand.tmp 0), type := 25, pos := "seqs.go:96", after := #[], guard := none }, { dst := some 93, op := Op.move (Operand.tmp 7), type := 25, pos := "seqs.go:96", after := #[], guard := none }, { dst := some 94, op := Op.call { callee := Callee.value (Operand.func 63), args := #[Operand.tmp 89, Operand.tmp 90, Operand.tmp 91, Operand.tmp 92, Operand.tmp 93], argTypes := #[81, 3, 3, 25, 25] }, type := 3, pos := "seqs.go:96", after := #[{ on := 3, ground := Ground.data }, { on := 4, ground := Ground.data }, { on := 5, ground := Ground.data }, { on := 6, ground := Ground.data }, { on := 7, ground := Ground.data }], guard := none }, { dst := some 95, op := Op.call { callee := Callee.value (Operand.func 60), args := #[Operand.tmp 88, Operand.tmp 94], argTypes := #[3, 3] }, type := 3, pos := "seqs.go:96", after := #[{ on := 2, ground := Ground.data }, { on := 8, ground := Ground.data }, { on := 8, ground := Ground.chain }], guard := none }, { dst := some 96, op := Op.nilCheck (Operand.tmp 86), type := 0, pos := "seqs.go:96", after := #[{ on := 0, ground := Ground.data }, { on := 0, ground := Ground.phase }, { on := 1, ground := Ground.phase }, { on := 2, ground := Ground.phase }, { on := 3, ground := Ground.phase }, { on := 4, ground := Ground.phase }, { on := 5, ground := Ground.phase }, { on := 6, ground := Ground.phase }, { on := 7, ground := Ground.phase }, { on := 8, ground := Ground.phase }, { on := 9, ground := Ground.phase }], guard := none }, { dst := some 97, op := Op.fieldAddr 50 (Operand.tmp 96) 2, type := 0, pos := "seqs.go:96", after := #[{ on := 10, ground := Ground.data }, { on := 0, ground := Ground.phase }, { on := 1, ground := Ground.phase }, { on := 2, ground := Ground.phase }, { on := 3, ground := Ground.phase }, { on := 4, ground := Ground.phase }, { on := 5, ground := Ground.phase }, { on := 6, ground := Ground.phase }, { on := 7, ground := Ground.phase }, { on := 8, ground := Ground.phase }, { on := 9, ground := Ground.phase }], guard := none }, { dst := none, op := Op.store 3 (Operand.tmp 97) (Operand.tmp 95), type := 0, pos := "seqs.go:96", after := #[{ on := 11, ground := Ground.data }, { on := 9, ground := Ground.data }, { on := 9, ground := Ground.chain }, { on := 0, ground := Ground.phase }, { on := 1, ground := Ground.phase }, { on := 2, ground := Ground.phase }, { on := 3, ground := Ground.phase }, { on := 4, ground := Ground.phase }, { on := 5, ground := Ground.phase }, { on := 6, ground := Ground.phase }, { on := 7, ground := Ground.phase }, { on := 8, ground := Ground.phase }, { on := 9, ground := Ground.phase }], guard := none }] true).wp Tryz.prog Q { tmps := #[.slice A0 m c0, .int .i64 para, t2, t3, t4, t5, t6, .slice (some ad) m c1, .slice (some ⟨g, 0, none⟩) 1 c, t9, t10, .int .i64 0, .pointer (some ⟨b, 0, none⟩), t13, t14, .pointer (some ⟨q, 0, none⟩), t16, t17, t18, t19, t20, t21, t22, t23, t24, t25, t26, t27, t28, t29, t30, t31, t32, t33, t34, t35, t36, t37, t38, t39, t40, t41, t42, t43, t44, t45, t46, t47, t48, t49, t50, t51, t52, t53, t54, t55, t56, t57, t58, t59, t60, t61, t62, t63, t64, t65, t66, t67, t68, t69, t70, t71, t72, t73, t74, t75, t76, t77, t78, t79, t80, t81, t82, t83, t84, t85, t86, t87, t88, t89, t90, t91, t92, t93, t94, t95, t96, t97, t98, t99], defers := [] } W := by
 have hd0 : W.drew.cell? ⟨b, 0, none⟩ = some (.int .i64 para) := hc0
 have hd1 : W.drew.cell? ⟨g, 2, none⟩ = some (.int .i64 (t : Int)) := hc1
 have hd2 : W.drew.cell? (ad.add t) = some (.int .i64 (-1)) := hc2
 have hd3 : W.drew.cell? ⟨q, 2, none⟩ = some (.int .i64 x) := hq
 have hdf : W.drew.frozen? ⟨q, 2, none⟩ = false := hf
 refine region_plain (m := 13) (S := fun w' => w'.cell? ⟨b, 0, none⟩ = some (.int .i64 para) ∧ w'.cell? ⟨g, 2, none⟩ = some (.int .i64 (t : Int)) ∧ w'.cell? (ad.add t) = some (.int .i64 (-1))) (ds := [12]) #[false, false, false, false, false, false, false, false, false, false, false, false, false] (by kernel_rfl) rfl rfl ⟨hd0, hd1, hd2⟩
  (fun a' W' => a' = { tmps := #[.slice A0 m c0, .int .i64 para, t2, t3, t4, t5, t6, .slice (some ad) m c1, .slice (some ⟨g, 0, none⟩) 1 c, t9, t10, .int .i64 0, .pointer (some ⟨b, 0, none⟩), t13, t14, .pointer (some ⟨q, 0, none⟩), t16, t17, t18, t19, t20, t21, t22, t23, t24, t25, t26, t27, t28, t29, t30, t31, t32, t33, t34, t35, t36, t37, t38, t39, t40, t41, t42, t43, t44, t45, t46, t47, t48, t49, t50, t51, t52, t53, t54, t55, t56, t57, t58, t59, t60, t61, t62, t63, t64, t65, t66, t67, t68, t69, t70, t71, t72, t73, t74, t75, t76, t77, t78, t79, t80, t81, t82, t83, t84, t85, .pointer (some ⟨q, 0, none⟩), .pointer (some ⟨b, 0, none⟩), .int .i64 para, .slice (some ⟨g, 0, none⟩) 1 c, .int .i64 0, .int .i64 para, .slice A0 m c0, .slice (some ad) m c1, .int .i64 para, .int .i64 para, .pointer (some ⟨q, 0, none⟩), .pointer (some ⟨q, 2, none⟩), t98, t99], defers := [] } ∧ W' = W.drew.setCell ⟨q, 2, none⟩ (.int .i64 para)) (fun hHeld => ?_) (fun a' W' ⟨e, h3⟩ => by subst e; subst h3; exact hQ)
 generalize W.drew = w1 at hd0 hd1 hd2 hd3 hdf hHeld ⊢
 refine pure_ (i := 0) (N := some 86) (v := ?_) (a' := ?_) #[true, false, false, false, false, false, false, false, false, false, false, false, false] rfl rfl (by kernel_rfl) (fun _ _ _ h => by cases h.1) (Or.inl ⟨by rfl, ?_⟩) ?_ ?_
 rotate_left
 ·intro w'
  go_simp
  with_reducible rfl
 rotate_left
 ·simp only [Act.put, List.setIfInBounds_toArray, List.set_cons_zero, List.set_cons_succ, i64_w, i32_w]
  rfl
 refine pure_ (i := 1) (N := some 87) (v := ?_) (a' := ?_) #[true, true, false, false, false, false, false, false, false, false, false, false, false] rfl rfl (by kernel_rfl) (fun _ _ _ h => by cases h.1) (Or.inl ⟨by rfl, ?_⟩) ?_ ?_
 rotate_left
 ·intro w'
  go_simp
  with_reducible rfl
 rotate_left
 ·simp only [Act.put, List.setIfInBounds_toArray, List.set_cons_zero, List.set_cons_succ, i64_w, i32_w]
  rfl
 refine pure_ (i := 3) (N := some 89) (v := ?_) (a' := ?_) #[true, true, false, true, false, false, false, false, false, false, false, false, false] rfl rfl (by kernel_rfl) (fun _ _ _ h => by cases h.1) (Or.inl ⟨by rfl, ?_⟩) ?_ ?_
 rotate_left
 ·intro w'
  go_simp
  with_reducible rfl
 rotate_left
 ·simp only [Act.put, List.setIfInBounds_toArray, List.set_cons_zero, List.set_cons_succ, i64_w, i32_w]
  rfl
 refine pure_ (i := 4) (N := some 90) (v := ?_) (a' := ?_) #[true, true, false, true, true, false, false, false, false, false, false, false, false] rfl rfl (by kernel_rfl) (fun _ _ _ h => by cases h.1) (Or.inl ⟨by rfl, ?_⟩) ?_ ?_
 rotate_left
 ·intro w'
  go_simp
  with_reducible rfl
 rotate_left
 ·simp only [Act.put, List.setIfInBounds_toArray, List.set_cons_zero, List.set_cons_succ, i64_w, i32_w]
  rfl
 refine pure_ (i := 5) (N := some 91) (v := ?_) (a' := ?_) #[true, true, false, true, true, true, false, false, false, false, false, false, false] rfl rfl (by kernel_rfl) (fun _ _ _ h => by cases h.1) (Or.inl ⟨by rfl, ?_⟩) ?_ ?_
 rotate_left
 ·intro w'
  go_simp
  with_reducible rfl
 rotate_left
 ·simp only [Act.put, List.setIfInBounds_toArray, List.set_cons_zero, List.set_cons_succ, i64_w, i32_w]
  rfl
 refine pure_ (i := 6) (N := some 92) (v := ?_) (a' := ?_) #[true, true, false, true, true, true, true, false, false, false, false, false, false] rfl rfl (by kernel_rfl) (fun _ _ _ h => by cases h.1) (Or.inl ⟨by rfl, ?_⟩) ?_ ?_
 rotate_left
 ·intro w'
  go_simp
  with_reducible rfl
 rotate_left
 ·simp only [Act.put, List.setIfInBounds_toArray, List.set_cons_zero, List.set_cons_succ, i64_w, i32_w]
  rfl
 refine pure_ (i := 7) (N := some 93) (v := ?_) (a' := ?_) #[true, true, false, true, true, true, true, true, false, false, false, false, false] rfl rfl (by kernel_rfl) (fun _ _ _ h => by cases h.1) (Or.inl ⟨by rfl, ?_⟩) ?_ ?_
 rotate_left
 ·intro w'
  go_simp
  with_reducible rfl
 rotate_left
 ·simp only [Act.put, List.setIfInBounds_toArray, List.set_cons_zero, List.set_cons_succ, i64_w, i32_w]
  rfl
 refine take_ (i := 2) (N := some 88) (v := ?_) (a' := ?_) #[true, true, true, true, true, true, true, true, false, false, false, false, false] rfl rfl (by kernel_rfl) (fun _ _ _ h => by cases h.1) (Or.inl ⟨by rfl, ?_⟩) hHeld ?_ ?_
 rotate_left
 ·rintro w' ⟨s0, s1, s2⟩
  go_simp
  with_reducible rfl
 rotate_left
 ·simp only [Act.put, List.setIfInBounds_toArray, List.set_cons_zero, List.set_cons_succ, i64_w, i32_w]
  rfl
 refine one_ (i := 8) (N := some 94) #[true, true, true, true, true, true, true, true, true, false, false, false, false] rfl rfl (by kernel_rfl) (by decide) (fun K hK => ?_)
 go_simp
 go_at_call 63
 refine (behind_any g c t para A0 m c0 ad c1 ht hm _ hd1 hd2).mono ?_
 rintro e w' ⟨rfl, hw⟩
 obtain rfl := hw.symm
 clear hw
 refine hK.out _ _ hHeld (fun hHeld => ?_)
 clear hK K
 refine one_ (i := 9) (N := some 95) #[true, true, true, true, true, true, true, true, true, true, false, false, false] rfl rfl (by kernel_rfl) (by decide) (fun K hK => ?_)
 go_simp
 go_at_call 60
 refine (way_any _ hp _).mono ?_
 rintro e w' ⟨rfl, hw⟩
 obtain rfl := hw.symm
 clear hw
 refine hK.out _ _ hHeld (fun hHeld => ?_)
 clear hK K
 refine pure_ (i := 10) (N := some 96) (v := ?_) (a' := ?_) #[true, true, true, true, true, true, true, true, true, true, true, false, false] rfl rfl (by kernel_rfl) (fun _ _ _ h => by cases h.1) (Or.inl ⟨by rfl, ?_⟩) ?_ ?_
 rotate_left
 ·intro w'
  go_simp
  with_reducible rfl
 rotate_left
 ·simp only [Act.put, List.setIfInBounds_toArray, List.set_cons_zero, List.set_cons_succ, i64_w, i32_w]
  rfl
 refine pure_ (i := 11) (N := some 97) (v := ?_) (a' := ?_) #[true, true, true, true, true, true, true, true, true, true, true, true, false] rfl rfl (by kernel_rfl) (fun _ _ _ h => by cases h.1) (Or.inl ⟨by rfl, ?_⟩) ?_ ?_
 rotate_left
 ·intro w'
  go_simp
  with_reducible rfl
 rotate_left
 ·simp only [Act.put, List.setIfInBounds_toArray, List.set_cons_zero, List.set_cons_succ, i64_w, i32_w]
  rfl
 refine last_ (i := 12) (N := none) #[true, true, true, true, true, true, true, true, true, true, true, true, true] rfl rfl (by kernel_rfl) (by decide) (fun K hK => ?_)
 go_simp
 refine hK.out _ _ ?_
 refine done_ (by kernel_rfl) ?_
 exact ⟨rfl, rfl, rfl⟩
end Go.Proofs.YtdpifkhkemeclaaGreat
namespace Go.Proofs.YtdpifkhkemeclaaGreat
open Go.RowKit Go.Shelf Go.Proofs.YtdpifkhkemeclaaGreatW.PrintWords
set_option linter.unusedVariables false
set_option linter.unusedSimpArgs false
/-- The places that have a level. -/
def keptL (para : Int) (l : List Int) : List Nat := (kpTo (l.map (lvP para)) l.length).map (·.1)
theorem ints_of_R {w : World} {base : Nat} {ok : Nat → Prop} {v : Value} {zs : List Int} (h : Kd.R (Kd.int .i64) 3 w base ok v zs) : IntsB w.heap.size w v zs ∧ ∃ A c, v = .slice A zs.length c := by
 obtain ⟨inner, ho⟩ := Kd.R_own h
 rcases ho.2 with ⟨rfl, h0⟩ | ⟨g, cap, cur, rfl, hB, hg, r⟩
 ·have : zs = [] := List.eq_nil_of_length_eq_zero (by omega)
  subst this
  exact ⟨.inl ⟨_, _, rfl, rfl⟩, _, _, rfl⟩
 ·refine ⟨.inr ⟨g, 0, cap, rfl, lt_of_block hg, fun j hj => ?_⟩, _, _, rfl⟩
  obtain ⟨ad, e, hc⟩ := Kd.at_int (Kd.R_reads' h).2.2 (j : Int) (by omega) (by omega)
  injection e with e
  subst e
  have hrd : rd zs (j : Int) = zs[j]?.getD 0 := by simp [rd, List.getD_eq_getElem?_getD]
  rw [← hrd, Nat.zero_add]
  rwa [Int.toNat_natCast, add_plain] at hc
theorem IntsB.up {a b : Nat} (h : a ≤ b) {W : World} {v : Value} {zs : List Int} : IntsB a W v zs → IntsB b W v zs
 | .inl e => .inl e
 | .inr ⟨g, off, cap, e, hb, hc⟩ => .inr ⟨g, off, cap, e, Nat.lt_of_lt_of_le hb h, hc⟩
theorem kpTo_mem {zs : List Int} : ∀ {k : Nat} {x : Nat × Int}, x ∈ kpTo zs k → x.1 < k
 | 0, x, h => by simp [kpTo] at h
 | k + 1, x, h => by
  rcases List.mem_append.1 h with h | h
  ·have := kpTo_mem h; omega
  ·split at h
   ·simp at h; subst h; exact Nat.lt_succ_self _
   ·simp at h
theorem lv_nonneg (para : Int) (hpa : para = 0 ∨ para = 1) (l : List Int) (k : Nat) (hk : k < (l.map (lvP para)).length) (h0 : 0 ≤ (l.map (lvP para))[k]?.getD 0) : (l.map (lvP para))[k]?.getD 0 = para := by
 rw [List.length_map] at hk
 rw [List.getElem?_map, List.getElem?_eq_getElem hk] at h0 ⊢
 simp only [Option.map_some, Option.getD_some] at h0 ⊢
 unfold lvP at h0 ⊢
 split at h0
 ·omega
 ·rename_i h; rw [if_neg h]
theorem runs_form {w W' : World} {lv : Value} {para : Int} {zs : List Int} {e : Ending} (h : ∃ ks, ks = (kpTo zs zs.length).map (·.1) ∧ ((ks = [] ∧ e = .returned (.slice none 0 0) ∧ Below w.heap.size w W') ∨
   ∃ f t g c vA, ks.head? = some f ∧ ks.getLast? = some t ∧ e = .returned (.slice (some ⟨g, 0, none⟩) 1 c) ∧ RT w lv para (f : Int) (t : Int) (.slice (some ⟨g, 0, none⟩) 1 c) vA ks W')) :
  ∃ A n c, e = .returned (.slice A n c) ∧ (((kpTo zs zs.length).map (·.1) = [] ∧ A = none ∧ n = 0 ∧ c = 0 ∧ Below w.heap.size w W') ∨
   ∃ f t g vA, ((kpTo zs zs.length).map (·.1)).head? = some f ∧ ((kpTo zs zs.length).map (·.1)).getLast? = some t ∧ A = some ⟨g, 0, none⟩ ∧ n = 1 ∧ RT w lv para (f : Int) (t : Int) (.slice (some ⟨g, 0, none⟩) 1 c) vA ((kpTo zs zs.length).map (·.1)) W') := by
 obtain ⟨ks, rfl, ⟨h1, rfl, h2⟩ | ⟨f, t, g, c, vA, h1, h2, rfl, h3⟩⟩ := h
 ·exact ⟨_, _, _, rfl, .inl ⟨h1, rfl, rfl, rfl, h2⟩⟩
 ·exact ⟨_, _, _, rfl, .inr ⟨f, t, g, vA, h1, h2, rfl, rfl, h3⟩⟩
/-- A sequence's row, its places. -/
structure SQ (w : World) (para : Int) (ks : List Nat) (v : Value) (W : World) : Prop where
 bel : Below w.heap.size w W
 st : (ks = [] ∧ v = .slice none 0 0) ∨ (ks ≠ [] ∧ ∃ g c vT, v = .slice (some ⟨g, 0, none⟩) 1 c ∧ W.ownsRow w.heap.size 50 4 v 1 [.int .i64 para, .int .i64 para, .int .i64 para, vT] ∧ W.ownsRow w.heap.size 3 1 vT ks.length (icells ks))
theorem own_frozen {W : World} {base : Nat} {e : TypeId} {size n n' g c : Nat} {xs : List Value} (h : W.ownsRow base e size (.slice (some ⟨g, 0, none⟩) n c) n' xs) (j : Nat) : W.frozen? ⟨g, j, none⟩ = false := by
 rcases h.2 with ⟨h', _⟩ | ⟨g', cap', cur, h', _, hh, _⟩
 ·cases h'
 ·have : g = g' := by injection h' with h'; injection h' with h'; injection h' with h'
  subst this
  simp [World.frozen?, hh]
theorem look0 (r : Nat) (x : Int) (W : World) (h : W.heap[r]? = some (.map #[] 0)) : (Instr.lookup 83 (.map (some r)) (.int .i64 x) true).run Tryz.prog W = .ok (.tuple #[.int .i64 0, .bool false]) W := by
 have hz : (zeroValue 3).run Tryz.prog W = .ok (.int .i64 0) W := by kernel_rfl
 have hu : (underlying 83).run Tryz.prog W = .ok (.map 3 3) W := by kernel_rfl
 have hu3 : (underlying 3).run Tryz.prog W = .ok (.int .i64) W := by kernel_rfl
 have hg : (getObj r).run Tryz.prog W = .ok (.map #[] 0) W := by simp [getObj, Sem.run, h]
 have hk : (Instr.checkKey true 10000 3 (.int .i64 x)).run Tryz.prog W = .ok () W := by
  show (Instr.checkKey true (9999 + 1) 3 (.int .i64 x)).run Tryz.prog W = .ok () W
  unfold Instr.checkKey
  simp [hu3, Result.andThen]
 have hf : (Instr.findKey 3 (.int .i64 x) []).run Tryz.prog W = .ok none W := by
  unfold Instr.findKey
  simp [hu3, Result.andThen, Instr.findNow, Instr.findAsking]
 unfold Instr.lookup
 simp [hu, hg, hk, hf, hz, Result.andThen]
/-- What stands while the sequence is laid: the run's copy, the run, its places, what meets what. -/
structure SZ (w : World) (b g ga m ca cc : Nat) (para f t : Int) (ks : List Nat) (vM : Value) (n : Nat) (RM : List Int) (W : World) : Prop where
 bel : Below w.heap.size w W
 box : W.heap[b]? = some (.cells #[.int .i64 para, .int .i64 f, .int .i64 t, .slice (some ⟨ga, 0, none⟩) m ca] 85 (0, 0))
 rR : W.ownsRow w.heap.size 85 4 (.slice (some ⟨g, 0, none⟩) 1 cc) 1 [.int .i64 para, .int .i64 f, .int .i64 t, .slice (some ⟨ga, 0, none⟩) m ca]
 rA : W.ownsRow w.heap.size 3 1 (.slice (some ⟨ga, 0, none⟩) m ca) m (icells ks)
 rM : W.ownsRow w.heap.size 3 1 vM n (nums .i64 RM)
section
variable {w W W' : World} {b g ga m ca cc n : Nat} {para f t : Int} {ks : List Nat} {vM : Value} {RM : List Int}
theorem SZ.below (h : SZ w b g ga m ca cc para f t ks vM n RM W) (hb : Below W.heap.size W W') : SZ w b g ga m ca cc para f t ks vM n RM W' :=
 ⟨h.bel.trans (hb.mono h.bel.size), (hb.block _ (lt_of_block h.box)).trans h.box, pw_own_below h.rR hb, pw_own_below h.rA hb, pw_own_below h.rM hb⟩
theorem SZ.put {g5 c5 k : Nat} {xs : List Value} {o : Nat} (h : SZ w b g ga m ca cc para f t ks vM n RM W) (hr : W.ownsRow w.heap.size 50 4 (.slice (some ⟨g5, 0, none⟩) k c5) o xs) (hg : W.grownBy W' (some g5)) : SZ w b g ga m ca cc para f t ks vM n RM W' := by
 refine ⟨h.bel.grown hg h.bel.size (fun k e => by cases e; exact own_base hr g5 rfl), ?_, h.rR.kept hg (own_type_ne h.rR hr (by decide)), h.rA.kept hg (own_type_ne h.rA hr (by decide)), h.rM.kept hg (own_type_ne h.rM hr (by decide))⟩
 exact (hg.block b (lt_of_block h.box) (own_ne hr h.box (by decide))).trans h.box
theorem SZ.c0 (h : SZ w b g ga m ca cc para f t ks vM n RM W) : W.cell? ⟨b, 0, none⟩ = some (.int .i64 para) := by rw [blk_cell h.box]; rfl
theorem SZ.c3 (h : SZ w b g ga m ca cc para f t ks vM n RM W) : W.cell? ⟨b, 3, none⟩ = some (.slice (some ⟨ga, 0, none⟩) m ca) := by rw [blk_cell h.box]; rfl
theorem SZ.g2 (h : SZ w b g ga m ca cc para f t ks vM n RM W) : W.cell? ⟨g, 2, none⟩ = some (.int .i64 t) := h.rR.cells (g := g) rfl 2 _ rfl
theorem SZ.gl (h : SZ w b g ga m ca cc para f t ks vM n RM W) : g < W.heap.size := own_lt h.rR g rfl
end
set_option maxRecDepth 100000 in
set_option maxHeartbeats 8000000 in
theorem sequences_any (A0 : Option Addr) (c0 : Nat) (l : List Int) (para : Int) (w : World) (hr0 : Kd.C (Kd.int .i64) w A0 l.length l) (hl : l.length ≤ 1048576) (hp : ∀ c ∈ l, c < 14) (hpa : para = 0 ∨ para = 1) :
  Calls Tryz.prog 28 #[.slice A0 l.length c0, .int .i64 para] w fun e w' => ∃ v, e = .returned v ∧ SQ w para (keptL para l) v w' := by
 have HC := Lib.hid hr0
 have HP := Lib.hid hp
 have Hl := Lib.hid hl
 have HPa := Lib.hid hpa
 clear hr0 hp hl hpa
 go_enter Tryz.func28, Tryz.ntmps28
 go_wp2_with (first
  | (go_at_call 27; refine (explicit_any A0 c0 l para _ HC.out Hl.out HP.out HPa.out).mono ?_; rintro e w1 ⟨v1, v2, rfl, hR1, hR2, hb1⟩; obtain ⟨hI1, A1, c1, rfl⟩ := ints_of_R hR1; rw [List.length_map] at hI1; have HI1 := Lib.hid hI1; have Hb1 := Lib.hid hb1; clear hR1 hR2 hb1 hI1)
  | (go_at_call 50; refine (match_any A0 c0 l _ (Kd.C_below HC.out (Hb1.out)) Hl.out HP.out).mono ?_; rintro e w2 ⟨vM, RM, rfl, hM, hMv, hb2⟩; obtain ⟨AM, cM, rfl⟩ := own_slice hM; have HM := Lib.hid hM; have HMv := Lib.hid hMv; have Hb2 := Lib.hid hb2; clear hM hMv hb2))
 refine (callsIn_wide.1 (runs_in 5 (by omega) para _ A1 _ c1 rfl (l.map (lvP para)) (by rw [List.length_map]; exact Hl.out) (lv_nonneg para HPa.out l) _ ((HI1.out.below Hb2.out).up Hb2.out.size))).mono ?_
 rintro e w3 hE
 obtain ⟨A3, n3, c3, rfl, hE3⟩ := runs_form hE
 have HE := Lib.hid hE3
 clear hE hE3
 have hmm := @run_makeMap Tryz.prog
 go_wp2
 rcases HE.out with ⟨h0, rfl, rfl, rfl, hb3⟩ | ⟨f, t, g, vA, hf, ht, rfl, rfl, hT⟩
 ·go_loopg [10, 31] 1 (fun gk v10 v31 wr => v10 = .slice none 0 0 ∧ v31 = .int .i64 0 ∧ wr = w3.alloc (.map #[] 0))
  case atStart => exact ⟨rfl, rfl, rfl⟩
  case round =>
   obtain ⟨rfl, rfl, rfl⟩ := hrel
   go_wp2
   go_ret
   have hb := ((Hb1.out.trans (Hb2.out.mono Hb1.out.size)).trans (hb3.mono (Nat.le_trans Hb1.out.size Hb2.out.size))).alloc (Nat.le_trans Hb1.out.size (Nat.le_trans Hb2.out.size hb3.size)) (.map #[] 0)
   refine ⟨_, rfl, hb, .inl ⟨?_, rfl⟩⟩
   unfold keptL
   rw [List.length_map] at h0
   exact h0
 ·have HT := Lib.hid hT
  obtain ⟨w4, hw4⟩ : ∃ w4, w4 = w3.alloc (.map #[] 0) := ⟨_, rfl⟩
  have HM4 : Hid (w4.heap[w3.heap.size]? = some (.map #[] 0)) := Lib.hid (by rw [hw4]; exact heap_alloc_new _ _)
  have HT4 : Hid (RT w2 (.slice A1 l.length c1) para (f : Int) (t : Int) (.slice (some ⟨g, 0, none⟩) 1 c3) vA ((kpTo (l.map (lvP para)) (l.map (lvP para)).length).map (·.1)) w4) := Lib.hid (by rw [hw4]; exact hT.alloc _)
  rw [← hw4]
  clear hw4 hT HT HE
  obtain ⟨ks, hks⟩ : ∃ ks, ks = (kpTo (l.map (lvP para)) (l.map (lvP para)).length).map (·.1) := ⟨_, rfl⟩
  rw [← hks] at hf ht HT4
  obtain ⟨ga, ca, rfl⟩ : ∃ ga ca, vA = .slice (some ⟨ga, 0, none⟩) ks.length ca := by
   rcases HT4.out.rA.2 with ⟨rfl, h0⟩ | ⟨ga, ca, cur, rfl, _⟩
   ·rw [List.eq_nil_of_length_eq_zero h0] at hf; cases hf
   ·exact ⟨ga, ca, rfl⟩
  obtain ⟨m, hm⟩ : ∃ m, m = ks.length := ⟨_, rfl⟩
  have Hks := Lib.hid hks
  have Hm := Lib.hid hm
  rw [← hm] at HT4
  have Hf := Lib.hid hf
  have Ht := Lib.hid ht
  clear hks hm hf ht
  go_loopg [10, 31] 2 (fun gk v10 v31 wr => (gk = 2 ∧ v31 = .int .i64 0 ∧ v10 = .slice none 0 0 ∧ wr = w4) ∨ (gk = 1 ∧ v31 = .int .i64 1 ∧ Hid (SQ w para ks v10 wr)))
  case atStart => exact .inl ⟨rfl, rfl, rfl, rfl⟩
  case round =>
   rcases hrel with ⟨rfl, rfl, rfl, rfl⟩ | ⟨rfl, rfl, HS⟩
   ·have e0 : wr.cell? ⟨g, 0, none⟩ = some (.int .i64 para) := HT4.out.rO.cells (g := g) rfl 0 _ rfl
    have e1 : wr.cell? ⟨g, 1, none⟩ = some (.int .i64 (f : Int)) := HT4.out.rO.cells (g := g) rfl 1 _ rfl
    have e2 : wr.cell? ⟨g, 2, none⟩ = some (.int .i64 (t : Int)) := HT4.out.rO.cells (g := g) rfl 2 _ rfl
    have e3 : wr.cell? ⟨g, 3, none⟩ = some (.slice (some ⟨ga, 0, none⟩) m ca) := HT4.out.rO.cells (g := g) rfl 3 _ rfl
    go_wp2
    obtain ⟨w5, hw5⟩ : ∃ w5, w5 = wr.alloc (.cells #[.int .i64 para, .int .i64 (f : Int), .int .i64 (t : Int), .slice (some ⟨ga, 0, none⟩) m ca] 85) := ⟨_, rfl⟩
    obtain ⟨b, hb⟩ : ∃ b, b = wr.heap.size := ⟨_, rfl⟩
    have hM5 : w5.heap[w3.heap.size]? = some (.map #[] 0) := by rw [hw5]; exact (((Below.refl wr.heap.size wr).alloc (Nat.le_refl _) _).block _ (lt_of_block HM4.out)).trans HM4.out
    have HZ5 : Hid (SZ w b g ga m ca c3 para (f : Int) (t : Int) ks (.slice AM l.length cM) l.length RM w5) := Lib.hid (by
     rw [hw5, hb]
     have hbw : Below wr.heap.size wr (wr.alloc (.cells #[.int .i64 para, .int .i64 (f : Int), .int .i64 (t : Int), .slice (some ⟨ga, 0, none⟩) m ca] 85)) := (Below.refl _ _).alloc (Nat.le_refl _) _
     have hq := HT4.out
     have qA := hq.rA
     rw [← Hm.out] at qA
     have hs2 : w.heap.size ≤ w2.heap.size := Nat.le_trans Hb1.out.size Hb2.out.size
     refine ⟨?_, heap_alloc_new _ _, own_weaken (pw_own_below hq.rO hbw) hs2, own_weaken (pw_own_below qA hbw) hs2, own_weaken (pw_own_below (pw_own_below HM.out (hq.bel.mono (Nat.le_refl _))) hbw) Hb1.out.size⟩
     exact ((Hb1.out.trans (Hb2.out.mono Hb1.out.size)).trans (hq.bel.mono hs2)).trans (hbw.mono (Nat.le_trans hs2 hq.bel.size)))
    have hl5 : Hid (w5.heap[w3.heap.size]? = some (.map #[] 0)) := Lib.hid hM5
    rw [← hw5, ← hb] at *
    rw [look0 _ _ _ hl5.out]
    clear hw5 hb hM5 e0 e1 e2 e3
    have z0 := HZ5.out.c0
    have z1 : w5.cell? ⟨b, 1, none⟩ = some (.int .i64 (f : Int)) := by rw [blk_cell HZ5.out.box]; rfl
    go_wp2
    refine reg12 HPa.out (B := w.heap.size) HZ5.out.bel.size z0 _ _ _ _ _ _ _ _ _ _ _ _ _ _ _ _ _ _ _ _ _ _ _ _ _ _ _ _ _ _ _ _ _ _ _ _ _ _ _ _ _ _ _ _ _ _ _ _ _ _ _ _ _ _ _ _ _ _ _ _ _ _ _ _ _ _ _ _ _ _ _ _ _ _ _ _ _ _ _ _ _ _ _ _ _ _ _ _ _ _ _ _ _ _ _ _ ?_
    intro v6 w6 ho6 hb6
    obtain ⟨q, cq, rfl⟩ := ownsRow_succ ho6
    have HZ6 := Lib.hid (HZ5.out.below hb6)
    have HO6 := Lib.hid ho6
    clear z0 z1 hb6 ho6
    go_wp2
    refine reg14 (B := w.heap.size) ks Hm.out.symm (by rw [Hm.out, Hks.out, List.length_map]; exact Nat.le_trans (kpTo_length _ _) (by rw [List.length_map]; exact Hl.out)) HZ6.out.bel.size (HO6.out.cells (g := q) rfl 3 _ rfl) (own_frozen HO6.out 3) HZ6.out.c3 HZ6.out.rA _ _ _ _ _ _ _ _ _ _ _ _ _ _ _ _ _ _ _ _ _ _ _ _ _ _ _ _ _ _ _ _ _ _ _ _ _ _ _ _ _ _ _ _ _ _ _ _ _ _ _ _ _ _ _ _ _ _ _ _ _ _ _ _ _ _ _ _ _ _ _ _ _ _ _ _ _ _ _ _ _ _ _ _ _ _ _ _ _ _ _ _ _ _ _ _ _ _ _ ?_
    intro vT w7 ho7 hb7
    have hq7 := pw_own_below HO6.out hb7
    obtain ⟨hq8, hg8⟩ := hq7.stored (g := q) 3 vT
    have HZ8 := Lib.hid ((HZ6.out.below hb7).put hq7 hg8)
    have HT8 := Lib.hid (ho7.kept hg8 (own_type_ne ho7 hq7 (by decide)))
    have HO8 : Hid ((w7.setCell ⟨q, 3, none⟩ vT).ownsRow w.heap.size 50 4 (.slice (some ⟨q, 0, none⟩) 1 cq) 1 [.int .i64 para, .int .i64 para, .int .i64 0, vT]) := Lib.hid hq8
    clear ho7 hb7 hq7 hq8 hg8
    obtain ⟨w8, hw8⟩ : ∃ w8, w8 = w7.setCell ⟨q, 3, none⟩ vT := ⟨_, rfl⟩
    rw [← hw8] at HZ8 HT8 HO8 ⊢
    clear hw8
    have htl : t < l.length := by
     have h1 := List.mem_of_getLast? Ht.out
     rw [Hks.out] at h1
     obtain ⟨x, hx, rfl⟩ := List.mem_map.1 h1
     have := kpTo_mem hx
     rwa [List.length_map] at this
    obtain ⟨adC, eC, hcC⟩ := Kd.at_int HC.out (t : Int) (by omega) (by omega)
    cases eC
    obtain ⟨cl, hcl⟩ : ∃ cl, cl = rd l (t : Int) := ⟨_, rfl⟩
    have hcl14 : cl < 14 := by
     rw [hcl]
     simp only [rd, Int.toNat_natCast, List.getD_eq_getElem?_getD, List.getElem?_eq_getElem htl, Option.getD_some]
     exact HP.out _ (List.getElem_mem htl)
    rw [← hcl, Int.toNat_natCast] at hcC
    have hcC8 : w8.cell? (adC.add t) = some (.int .i64 cl) := by rw [HZ8.out.bel.cell (World.block_lt_of_cell? w _ hcC)]; exact hcC
    have HC8 := Lib.hid hcC8
    have H14 := Lib.hid hcl14
    have Htl := Lib.hid htl
    clear hcl hcC hcC8 hcl14 htl
    go_wp2_with (go_at_call 62; refine (goes_any g c3 t adC l.length c0 AM l.length cM cl H14.out Htl.out Hl.out _ HZ8.out.gl HZ8.out.g2 HC8.out).mono ?_; rintro e w9 ⟨rfl, hb9⟩; have HZ9 := Lib.hid (HZ8.out.below hb9); have HT9 := Lib.hid (pw_own_below HT8.out hb9); have HO9 := Lib.hid (pw_own_below HO8.out hb9); clear hb9)
    have hMt : ∃ gM, AM = some ⟨gM, 0, none⟩ ∧ w9.cell? ⟨gM, t, none⟩ = some (.int .i64 (-1)) := by
     have hM9 := HZ9.out.rM
     rcases hM9.2 with ⟨hv, h0⟩ | ⟨gM, cap, cur, hv, _, _, _⟩
     ·have := Htl.out; omega
     ·injection hv with e1 e2 e3
      subst e1
      subst e3
      refine ⟨gM, rfl, ?_⟩
      have h2 := (own_at hM9 (t : Int) (by omega) (by have := Htl.out; omega)).1
      rw [Int.toNat_natCast] at h2
      rw [h2]
      simp only [rd, Int.toNat_natCast]
      rw [HMv.out t Htl.out]
    obtain ⟨gM, rfl, hMt⟩ := hMt
    have Hmt := Lib.hid hMt
    clear hMt
    refine reg18 HPa.out (t := t) (ad := ⟨gM, 0, none⟩) (x := 0) Htl.out Hl.out HZ9.out.c0 HZ9.out.g2 (by rw [add_plain]; exact Hmt.out) (HO9.out.cells (g := q) rfl 2 _ rfl) (own_frozen HO9.out 2) _ _ _ _ _ _ _ _ _ _ _ _ _ _ _ _ _ _ _ _ _ _ _ _ _ _ _ _ _ _ _ _ _ _ _ _ _ _ _ _ _ _ _ _ _ _ _ _ _ _ _ _ _ _ _ _ _ _ _ _ _ _ _ _ _ _ _ _ _ _ _ _ _ _ _ _ _ _ _ _ _ _ _ _ _ _ _ _ _ _ _ _ _ _ ?_
    have hd : Below w9.heap.size w9 w9.drew := (Below.refl _ _).drew
    have hO10 := pw_own_below HO9.out hd
    obtain ⟨hq1, hg1⟩ := hO10.stored (g := q) 2 (.int .i64 para)
    have HF : Hid (SQ w para ks (.slice (some ⟨q, 0, none⟩) 1 cq) (w9.drew.setCell ⟨q, 2, none⟩ (.int .i64 para))) := Lib.hid ⟨((HZ9.out.below hd).put hO10 hg1).bel, .inr ⟨fun e => absurd Hf.out (by rw [e]; simp), q, cq, vT, rfl, hq1, by
     have h3 := (pw_own_below HT9.out hd).kept hg1 (own_type_ne (pw_own_below HT9.out hd) hO10 (by decide))
     rw [Hm.out] at h3
     exact h3⟩⟩
    clear hd hO10 hq1 hg1
    go_wp2
    go_roundg 1
    case measure => omega
    case rel => exact .inr ⟨rfl, by go_num, HF⟩
   ·go_wp2
    go_ret
    refine ⟨_, rfl, ?_⟩
    have h := HS.out
    have e : keptL para l = ks := by rw [Hks.out]; unfold keptL; rw [List.length_map]
    rw [e]
    exact h
end Go.Proofs.YtdpifkhkemeclaaGreat
