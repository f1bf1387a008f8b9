/- Texts cut into code points: behind a valid text another one's code points stand as they do alone. -/
import Derived.Test.YtfpibigfhhoiiaaDoorRSp
import Derived.Lib.TrimUEq
namespace Go.Proofs.YtfpibigfhhoiiaaDoor
open Go.RowKit
set_option linter.unusedVariables false
set_option linter.unusedSimpArgs false

theorem decodeN_grow (n n' b0 b1 b2 b3 c1 c2 c3 : Nat) (hn : n ≤ n') (h1 : 1 < n → c1 = b1) (h2 : 2 < n → c2 = b2) (h3 : 3 < n → c3 = b3) (hr : Lib.decodeN n b0 b1 b2 b3 ≠ (65533, 1)) :
    Lib.decodeN n' b0 c1 c2 c3 = Lib.decodeN n b0 b1 b2 b3 := by
  by_cases a : b0 < 128
  · unfold Lib.decodeN; rw [if_pos a, if_pos a]
  · by_cases two : b0 / 32 = 6 ∧ (1 < n ∧ b1 / 64 = 2)
    · obtain rfl := h1 two.2.1
      unfold Lib.decodeN
      rw [if_neg a, if_neg a, if_pos two, if_pos ⟨two.1, by omega, two.2.2⟩]
    · by_cases three : b0 / 16 = 14 ∧ (1 < n ∧ b1 / 64 = 2) ∧ (2 < n ∧ b2 / 64 = 2)
      · obtain rfl := h1 three.2.1.1
        obtain rfl := h2 three.2.2.1
        have nt : ¬ b0 / 32 = 6 := by omega
        unfold Lib.decodeN
        rw [if_neg a, if_neg a, if_neg two, if_neg (fun h => nt h.1), if_pos three, if_pos ⟨three.1, ⟨by omega, three.2.1.2⟩, ⟨by omega, three.2.2.2⟩⟩]
      · by_cases four : b0 / 8 = 30 ∧ (1 < n ∧ b1 / 64 = 2) ∧ (2 < n ∧ b2 / 64 = 2) ∧ (3 < n ∧ b3 / 64 = 2)
        · obtain rfl := h1 four.2.1.1
          obtain rfl := h2 four.2.2.1.1
          obtain rfl := h3 four.2.2.2.1
          have nt : ¬ b0 / 32 = 6 := by omega
          have nt2 : ¬ b0 / 16 = 14 := by omega
          unfold Lib.decodeN
          rw [if_neg a, if_neg a, if_neg two, if_neg (fun h => nt h.1), if_neg three, if_neg (fun h => nt2 h.1), if_pos four, if_pos ⟨four.1, ⟨by omega, four.2.1.2⟩, ⟨by omega, four.2.2.1.2⟩, ⟨by omega, four.2.2.2.2⟩⟩]
        · refine absurd ?_ hr
          unfold Lib.decodeN
          rw [if_neg a, if_neg two, if_neg three, if_neg four]
theorem app_list (a b : ByteArray) : (a ++ b).data.toList = a.data.toList ++ b.data.toList := by
  rw [ByteArray.data_append, Array.toList_append]
theorem decode_left (a b : ByteArray) (pos : Nat) (h : pos < a.size) (hr : Utf8.decode a pos ≠ (65533, 1)) : Utf8.decode (a ++ b) pos = Utf8.decode a pos := by
  have hl : a.data.toList.length = a.size := rfl
  have hget : ∀ k, k < a.data.toList.length - pos → ((a ++ b).data.toList.getD (pos + k) 0).toNat = (a.data.toList.getD (pos + k) 0).toNat := by
    intro k hk
    rw [app_list, List.getD_eq_getElem?_getD, List.getD_eq_getElem?_getD, List.getElem?_append_left (by omega)]
  rw [Lib.decode_N] at hr
  rw [Lib.decode_N (a ++ b), Lib.decode_N a]
  have h0 := hget 0 (by omega)
  rw [Nat.add_zero] at h0
  rw [h0]
  exact decodeN_grow _ _ _ _ _ _ _ _ _ (by rw [app_list, List.length_append]; omega) (fun hk => hget 1 hk) (fun hk => hget 2 hk) (fun hk => hget 3 hk) hr
theorem decode_right (a b : ByteArray) (q : Nat) : Utf8.decode (a ++ b) (a.size + q) = Utf8.decode b q := by
  have hl : a.data.toList.length = a.size := rfl
  have hget : ∀ k, ((a ++ b).data.toList.getD (a.size + q + k) 0) = (b.data.toList.getD (q + k) 0) := by
    intro k
    rw [app_list, List.getD_eq_getElem?_getD, List.getD_eq_getElem?_getD, List.getElem?_append_right (by omega), hl, show a.size + q + k - a.size = q + k by omega]
  rw [Lib.decode_N (a ++ b), Lib.decode_N b]
  have h0 := hget 0
  rw [Nat.add_zero, Nat.add_zero] at h0
  rw [h0, hget 1, hget 2, hget 3, app_list, List.length_append, hl, show a.size + b.data.toList.length - (a.size + q) = b.data.toList.length - q by omega]
def codes (L : List PJ.S77) : List Int := L.map fun x => x.f2
theorem splN_fuel (s : ByteArray) : ∀ (f f' pos : Nat), s.size ≤ pos + f → s.size ≤ pos + f' → splN s f pos = splN s f' pos := by
  intro f
  induction f with
  | zero =>
    intro f' pos h h'
    rw [splN_end s f' pos (by omega)]
    rfl
  | succ f ih =>
    intro f' pos h h'
    by_cases hp : pos < s.size
    · cases f' with
      | zero => omega
      | succ f' =>
        have := (width_okSp s pos hp).1
        simp only [splN]
        rw [if_pos hp, if_pos hp, ih f' _ (by omega) (by omega)]
    · rw [splN_end s _ pos hp, splN_end s _ pos hp]
theorem app_size (a b : ByteArray) : (a ++ b).size = a.size + b.size := ByteArray.size_append ..
theorem codes_right (a b : ByteArray) : ∀ (f q : Nat), codes (splN (a ++ b) f (a.size + q)) = codes (splN b f q) := by
  intro f
  induction f with
  | zero => intro q; rfl
  | succ f ih =>
    intro q
    simp only [splN]
    by_cases hq : q < b.size
    · rw [if_pos (by rw [app_size]; omega), if_pos hq, decode_right, Nat.add_assoc]
      simp only [codes, List.map_cons]
      have := ih (q + (Utf8.decode b q).2)
      simp only [codes] at this
      rw [this]
    · rw [if_neg (by rw [app_size]; omega), if_neg hq]
def okX (x : PJ.S77) : Prop := ¬ (x.f2 = 65533 ∧ x.f1 = 1)
theorem codes_join (a b : ByteArray) : ∀ (f pos f' : Nat), a.size ≤ pos + f → pos ≤ a.size → (a ++ b).size ≤ pos + f' → (∀ x ∈ splN a f pos, okX x) →
    codes (splN (a ++ b) f' pos) = codes (splN a f pos) ++ codes (splN b b.size 0) := by
  intro f
  induction f with
  | zero =>
    intro pos f' h1 h2 h3 _
    have e : pos = a.size + 0 := by omega
    rw [app_size] at h3
    rw [e, codes_right, splN_fuel b f' b.size 0 (by omega) (by omega)]
    rfl
  | succ f ih =>
    intro pos f' h1 h2 h3 hok
    by_cases hp : pos < a.size
    · have hw := width_okSp a pos hp
      rw [app_size] at h3
      simp only [splN] at hok ⊢
      rw [if_pos hp] at hok ⊢
      have hx := hok _ List.mem_cons_self
      have hr : Utf8.decode a pos ≠ (65533, 1) := by
        intro e
        refine hx ⟨?_, ?_⟩
        · show ((Utf8.decode a pos).1 : Int) = 65533
          rw [e]
          rfl
        · show ((Utf8.decode a pos).2 : Int) = 1
          rw [e]
          rfl
      cases f' with
      | zero => omega
      | succ f' =>
        simp only [splN]
        rw [if_pos (by rw [app_size]; omega), decode_left a b pos hp hr]
        have := ih (pos + (Utf8.decode a pos).2) f' (by omega) hw.2 (by rw [app_size]; omega) (fun x hx => hok x (List.mem_cons_of_mem _ hx))
        simp only [codes, List.map_cons, List.cons_append] at this ⊢
        rw [this]
    · have e : pos = a.size + 0 := by omega
      rw [app_size] at h3
      rw [splN_end a _ pos hp, e, codes_right, splN_fuel b f' b.size 0 (by omega) (by omega)]
      rfl
theorem splN_len (s : ByteArray) : ∀ (f pos : Nat), (splN s f pos).length ≤ f := by
  intro f
  induction f with
  | zero => intro pos; exact Nat.le_refl _
  | succ f ih =>
    intro pos
    simp only [splN]
    split
    · have := ih (pos + (Utf8.decode s pos).2)
      simp only [List.length_cons]
      omega
    · simp
end Go.Proofs.YtfpibigfhhoiiaaDoor
