import Derived.Test.YtcajdkncohcaeaaDoorLxG
namespace Go.Proofs.YtcajdkncohcaeaaDoor
set_option linter.unusedVariables false
set_option linter.unusedSimpArgs false
open Go.RowKit

theorem bcell {W w1 : World} (hb : Below W.heap.size W w1) : (∀ b o, b < W.heap.size → w1.cell? ⟨b, o, none⟩ = W.cell? ⟨b, o, none⟩) ∧ (∀ b o, b < W.heap.size → w1.frozen? ⟨b, o, none⟩ = W.frozen? ⟨b, o, none⟩) :=
  ⟨fun b o h => hb.cell (p := ⟨b, o, none⟩) h, fun b o h => hb.frozen (p := ⟨b, o, none⟩) h⟩

theorem bl_alloc {w W : World} (h : Below w.heap.size w W) (o : Obj) : Below w.heap.size w (W.alloc o) := h.alloc h.size o
theorem bl_set {w W : World} (h : Below w.heap.size w W) {p : Addr} (hp : w.heap.size ≤ p.block) (u : Value) : Below w.heap.size w (W.setCell p u) := h.setCell hp u
theorem bl_drew {w W : World} (h : Below w.heap.size w W) : Below w.heap.size w W.drew := h.drew
theorem bl_then {w W W' : World} (h : Below w.heap.size w W) (k : Below W.heap.size W W') : Below w.heap.size w W' := h.trans (k.mono h.size)

def tokK (k : Int) (s : ByteArray) : Tk :=
  if k = 2 then wordTk s else if k = 3 then numTk s else if k = 6 then unitsTk s else if k = 4 then (3, s.extract 0 1, 1) else noTk
def tokTk (s : ByteArray) : Tk := match s.data.toList with
  | [] => noTk
  | c :: _ => tokK (kindOf c.toNat) s

set_option maxHeartbeats 1000000 in
theorem token_any (s : ByteArray) (w : World) (h0 : 0 < s.size) (hs : s.size ≤ 140737488351232) (hG : Glob w) :
    Calls Tryd.prog 52 #[.string s] w fun e w' => e = .returned (tkV (tokTk s)) ∧ Below w.heap.size w w' := by
  have hd := drop_cons s 0 h0
  have hb : s[0].toNat ≤ 255 := Nat.le_of_lt_succ s[0].toNat_lt
  obtain ⟨k, hk⟩ : ∃ k, kindOf s[0].toNat = k := ⟨_, rfl⟩
  have HT : Hid (tokTk s = tokK k s) := Lib.hid (by rw [List.drop_zero] at hd; rw [tokTk, hd]; simp only [hk])
  clear hd
  have hGa := hG.alloc
  by_cases k2 : k = 2
  · have HF : Hid (tokTk s = wordTk s) := Lib.hid (by rw [HT.out, tokK, if_pos k2])
    subst k2
    go_enter Tryd.func52, Tryd.ntmps52
    go_wp2_with (first | (go_at_call 71; (with_reducible refine (kind_any _ _ hb (hG.alloc _)).mono ?_); rintro e w' ⟨rfl, rfl⟩))
    with_reducible refine (wordToken_any s _ hs (hG.alloc _)).mono ?_
    rintro e w1 ⟨rfl, hb1⟩
    obtain ⟨⟨a, b, c⟩, ht⟩ : ∃ t, wordTk s = t := ⟨_, rfl⟩
    rw [ht] at HF
    rw [ht]
    have hz : w.heap.size + 1 ≤ w1.heap.size := by have := hb1.size; simpa using this
    obtain ⟨hc, hf⟩ := bcell hb1
    have HB := Lib.hid (bl_then (bl_alloc (Below.refl _ _) _) hb1)
    clear hb1 ht
    simp only [tkV]
    go_wp2_with fail
    rw [HF.out]
    exact bodyPost_ret (v := tkV (a, b, c)) (by simp [results, Tryd.results52, go_sem, hc, hf, hz]; rfl) rfl ⟨rfl, by repeat (first | exact HB.out | refine bl_set ?_ (Nat.le_refl _) _)⟩
  by_cases k3 : k = 3
  · have HF : Hid (tokTk s = numTk s) := Lib.hid (by rw [HT.out, tokK, if_neg k2, if_pos k3])
    subst k3
    clear k2
    go_enter Tryd.func52, Tryd.ntmps52
    go_wp2_with (first | (go_at_call 71; (with_reducible refine (kind_any _ _ hb (hG.alloc _)).mono ?_); rintro e w' ⟨rfl, rfl⟩))
    with_reducible refine (numberToken_any s _ hs (hG.alloc _)).mono ?_
    rintro e w1 ⟨rfl, hb1⟩
    obtain ⟨⟨a, b, c⟩, ht⟩ : ∃ t, numTk s = t := ⟨_, rfl⟩
    rw [ht] at HF
    rw [ht]
    have hz : w.heap.size + 1 ≤ w1.heap.size := by have := hb1.size; simpa using this
    obtain ⟨hc, hf⟩ := bcell hb1
    have HB := Lib.hid (bl_then (bl_alloc (Below.refl _ _) _) hb1)
    clear hb1 ht
    simp only [tkV]
    go_wp2_with fail
    rw [HF.out]
    exact bodyPost_ret (v := tkV (a, b, c)) (by simp [results, Tryd.results52, go_sem, hc, hf, hz]; rfl) rfl ⟨rfl, by repeat (first | exact HB.out | refine bl_set ?_ (Nat.le_refl _) _)⟩
  by_cases k6 : k = 6
  · have HF : Hid (tokTk s = unitsTk s) := Lib.hid (by rw [HT.out, tokK, if_neg k2, if_neg k3, if_pos k6])
    subst k6
    clear k2 k3
    go_enter Tryd.func52, Tryd.ntmps52
    go_wp2_with (first | (go_at_call 71; (with_reducible refine (kind_any _ _ hb (hG.alloc _)).mono ?_); rintro e w' ⟨rfl, rfl⟩))
    with_reducible refine (unitsToken_any s _).mono ?_
    rintro e w1 ⟨rfl, hb1⟩
    obtain ⟨⟨a, b, c⟩, ht⟩ : ∃ t, unitsTk s = t := ⟨_, rfl⟩
    rw [ht] at HF
    rw [ht]
    have hz : w.heap.size + 1 ≤ w1.heap.size := by have := hb1.size; simpa using this
    obtain ⟨hc, hf⟩ := bcell hb1
    have HB := Lib.hid (bl_then (bl_alloc (Below.refl _ _) _) hb1)
    clear hb1 ht
    simp only [tkV]
    go_wp2_with fail
    rw [HF.out]
    exact bodyPost_ret (v := tkV (a, b, c)) (by simp [results, Tryd.results52, go_sem, hc, hf, hz]; rfl) rfl ⟨rfl, by repeat (first | exact HB.out | refine bl_set ?_ (Nat.le_refl _) _)⟩
  by_cases k4 : k = 4
  · have HF : Hid (tokTk s = (3, s.extract 0 1, 1)) := Lib.hid (by rw [HT.out, tokK, if_neg k2, if_neg k3, if_neg k6, if_pos k4])
    subst k4
    clear k2 k3 k6
    go_enter Tryd.func52, Tryd.ntmps52
    go_wp2_with (first | (go_at_call 71; (with_reducible refine (kind_any _ _ hb (hG.alloc _)).mono ?_); rintro e w' ⟨rfl, rfl⟩))
    rw [HF.out]
    exact bodyPost_ret (v := tkV (3, s.extract 0 1, 1)) (by simp [results, Tryd.results52, go_sem]; rfl) rfl ⟨rfl, by exact bl_alloc (Below.refl _ _) _⟩
  · have HF : Hid (tokTk s = noTk) := Lib.hid (by rw [HT.out, tokK, if_neg k2, if_neg k3, if_neg k6, if_neg k4])
    have e2 : (k == 2) = false := by simpa using k2
    have e3 : (k == 3) = false := by simpa using k3
    have e6 : (k == 6) = false := by simpa using k6
    have e4 : (k == 4) = false := by simpa using k4
    clear k2 k3 k6 k4
    go_enter Tryd.func52, Tryd.ntmps52
    go_wp2_with (first | (go_at_call 71; (with_reducible refine (kind_any _ _ hb (hG.alloc _)).mono ?_); rintro e w' ⟨rfl, rfl⟩))
    rw [HF.out]
    exact bodyPost_ret (v := tkV noTk) (by simp [results, Tryd.results52, go_sem]; rfl) rfl ⟨rfl, by exact bl_alloc (Below.refl _ _) _⟩
end Go.Proofs.YtcajdkncohcaeaaDoor
