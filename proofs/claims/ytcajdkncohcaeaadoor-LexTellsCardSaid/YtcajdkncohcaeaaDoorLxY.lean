import Derived.Test.YtcajdkncohcaeaaDoorLxYb
import Derived.Test.YtcajdkncohcaeaaDoorLxYc
import Derived.Test.YtcajdkncohcaeaaDoorLxYd
import Derived.Test.YtcajdkncohcaeaaDoorLxYe
import Derived.Test.YtcajdkncohcaeaaDoorLxYf
import Derived.Test.YtcajdkncohcaeaaDoorLxYg
import Derived.Test.YtcajdkncohcaeaaDoorLxYh
namespace Go.Proofs.YtcajdkncohcaeaaDoor
set_option linter.unusedVariables false
set_option linter.unusedSimpArgs false
open Go.RowKit Go.Proofs.YtcajdkncohcaeaaDoorW.PrintWords

set_option maxRecDepth 1000000 in
set_option maxHeartbeats 0 in
theorem rtokens_any (s : ByteArray) (w : World) (hs : s.size ≤ 140737488351232) :
    Calls Tryd.prog 17 #[.string s] w (RTokensPost (tokensOf s) w) := by
  by_cases hbig : s.size > 4000
  · rw [tokensOf, if_pos hbig]
    go_enter Tryd.func17, Tryd.ntmps17
    go_wp2_with fail
    exact bodyPost_ret (v := .agg #[.slice none 0 0, .int .i64 2, .int .i64 0]) (by simp [results, Tryd.results17, go_sem]) rfl ⟨_, rfl, Kd.R_nil _ _ _ _ _, by exact bl_alloc (Below.refl _ _) _⟩
  · have hsm : s.size ≤ 4000 := by omega
    rw [tokensOf, if_neg hbig]
    obtain ⟨r, hr⟩ : ∃ r, lexAll s = r := ⟨_, rfl⟩
    rw [hr]
    have H0 : Hid (pre [] (lexT (s.size + 1) 0 s) = r) := Lib.hid (by rw [pre_nil, ← hr, lexT, lexAll, List.drop_zero, Nat.zero_add])
    clear hr hbig
    obtain ⟨g, hg⟩ : ∃ g, w.heap.size + 1 = g := ⟨_, rfl⟩
    have HG := Lib.hid hg
    go_enter Tryd.func17, Tryd.ntmps17
    go_wp2_with fail
    generalize hw0 : (w.alloc (.cells #[.slice none 0 0, .int .i64 0, .int .i64 0] 30)).alloc (.cells #[.slice none 0 0, .int .i64 0, .int .i64 0] 30) = w0
    have hz0 : w0.heap.size = g + 1 := by rw [← hw0, ← hg]; simp
    have hB0 : Hid (Below w.heap.size w w0) := Lib.hid (by rw [← hw0]; exact bl_alloc (bl_alloc (Below.refl _ _) _) _)
    have hblk0 : Hid (w0.heap[g]? = some (gotBlk (.slice none 0 0))) := Lib.hid (by
      have h := heap_alloc_new (w.alloc (.cells #[.slice none 0 0, .int .i64 0, .int .i64 0] 30)) (.cells #[.slice none 0 0, .int .i64 0, .int .i64 0] 30)
      rw [show (w.alloc (.cells #[.slice none 0 0, .int .i64 0, .int .i64 0] 30)).heap.size = g by rw [← hg]; simp, hw0] at h
      exact h)
    have c0 : w0.cell? ⟨w.heap.size, 0, none⟩ = some (.slice none 0 0) := by rw [← hw0]; simp
    have c1 : w0.cell? ⟨w.heap.size, 1, none⟩ = some (.int .i64 0) := by rw [← hw0]; simp
    have c2 : w0.cell? ⟨w.heap.size, 2, none⟩ = some (.int .i64 0) := by rw [← hw0]; simp
    have f0 : ∀ j, w0.frozen? ⟨w.heap.size, j, none⟩ = false := by intro j; rw [← hw0]; simp
    have HC0 := Lib.hid c0
    have HC1 := Lib.hid c1
    have HC2 := Lib.hid c2
    have HF0 := Lib.hid f0
    clear hw0 c0 c1 c2 f0
    clear hg
    go_loopw [4] (fun i wr => ∃ k : Nat, i = .int .i64 k ∧ RTk w0 g s r k wr) (fun i _ => s.size - (intOf i).toNat)
    case atStart => exact ⟨0, rfl, s.size + 1, [], _, Nat.zero_le _, by omega, Nat.zero_le _, H0, hblk0, Kd.R_nil _ _ _ _ _, Below.refl _ _⟩
    case round =>
      obtain ⟨k, rfl, f, acc, v, hk, hf, ha, HA0, hblk, hR, hB⟩ := hrel
      have HA := Lib.hid HA0
      have HBK := Lib.hid hblk
      have HR := Lib.hid hR
      have HB := Lib.hid hB
      have hgw := HG.out
      have hsz := hB.size
      have d0 : wr.cell? ⟨w.heap.size, 0, none⟩ = some (.slice none 0 0) := (hB.cell (p := ⟨w.heap.size, 0, none⟩) (show w.heap.size < g by omega)).trans HC0.out
      have d1 : wr.cell? ⟨w.heap.size, 1, none⟩ = some (.int .i64 0) := (hB.cell (p := ⟨w.heap.size, 1, none⟩) (show w.heap.size < g by omega)).trans HC1.out
      have d2 : wr.cell? ⟨w.heap.size, 2, none⟩ = some (.int .i64 0) := (hB.cell (p := ⟨w.heap.size, 2, none⟩) (show w.heap.size < g by omega)).trans HC2.out
      have df : ∀ j, wr.frozen? ⟨w.heap.size, j, none⟩ = false := fun j => (hB.frozen (p := ⟨w.heap.size, j, none⟩) (show w.heap.size < g by omega)).trans (HF0.out j)
      have v0 : wr.cell? ⟨g, 0, none⟩ = some v := (blk_cell hblk 0).trans rfl
      have v1 : wr.cell? ⟨g, 1, none⟩ = some (.int .i64 0) := (blk_cell hblk 1).trans rfl
      have v2 : wr.cell? ⟨g, 2, none⟩ = some (.int .i64 0) := (blk_cell hblk 2).trans rfl
      have vf : ∀ j, wr.frozen? ⟨g, j, none⟩ = false := fun j => blk_frozen hblk j
      have HW : Hid (Below w.heap.size w wr) := Lib.hid (hB0.out.trans (hB.mono (by omega)))
      have hgs : g < wr.heap.size := by omega
      have hws : w.heap.size < wr.heap.size := by omega
      have hne : w.heap.size ≠ g := by omega
      have hgl : w.heap.size < g := by omega
      clear HA0 hblk hR hB
      have hsi : (s.size : Int) ≤ 4000 := by omega
      by_cases hlt : k < s.size
      · clear HG hgw
        by_cases hblank : isBlank s[k].toNat = true
        · exact rcase_blank hs hsm hz0 hsi hk hf ha HA HBK HR HB hsz d0 d1 d2 df v0 v1 v2 vf HW hgs hws hne hgl hlt hblank
        · by_cases hnote : s[k].toNat = 35
          · exact rcase_note hs hsm hz0 hsi hk hf ha HA HBK HR HB hsz d0 d1 d2 df v0 v1 v2 vf HW hgs hws hne hgl hlt hblank hnote
          · cases hlet : isLetter s[k].toNat with
            | true => exact rcase_word hs hsm hz0 hsi hk hf ha HA HBK HR HB hsz d0 d1 d2 df v0 v1 v2 vf HW hgs hws hne hgl hlt hblank hnote hlet
            | false =>
              cases hdig : isDigit s[k].toNat with
              | true => exact rcase_num hs hsm hz0 hsi hk hf ha HA HBK HR HB hsz d0 d1 d2 df v0 v1 v2 vf HW hgs hws hne hgl hlt hblank hnote hlet hdig
              | false =>
                by_cases h91 : s[k].toNat = 91
                · exact rcase_units hs hsm hz0 hsi hk hf ha HA HBK HR HB hsz d0 d1 d2 df v0 v1 v2 vf HW hgs hws hne hgl hlt hblank hnote hlet hdig h91
                · by_cases hsg : s[k].toNat = 40 ∨ s[k].toNat = 41 ∨ s[k].toNat = 43 ∨ s[k].toNat = 45 ∨ s[k].toNat = 42 ∨ s[k].toNat = 47 ∨ s[k].toNat = 94 ∨ s[k].toNat = 61 ∨ s[k].toNat = 59 ∨ s[k].toNat = 58
                  · rcases (show (s[k].toNat = 40 ∨ s[k].toNat = 41 ∨ s[k].toNat = 43 ∨ s[k].toNat = 45 ∨ s[k].toNat = 42) ∨ (s[k].toNat = 47 ∨ s[k].toNat = 94 ∨ s[k].toNat = 61 ∨ s[k].toNat = 59 ∨ s[k].toNat = 58) by omega) with h | h
                    · exact rcase_signA hs hsm hz0 hsi hk hf ha HA HBK HR HB hsz d0 d1 d2 df v0 v1 v2 vf HW hgs hws hne hgl hlt hblank hnote hlet hdig h91 h
                    · exact rcase_signB hs hsm hz0 hsi hk hf ha HA HBK HR HB hsz d0 d1 d2 df v0 v1 v2 vf HW hgs hws hne hgl hlt hblank hnote hlet hdig h91 h
                  · exact rcase_other hs hsm hz0 hsi hk hf ha HA HBK HR HB hsz d0 d1 d2 df v0 v1 v2 vf HW hgs hws hne hgl hlt hblank hnote hlet hdig h91 hsg
      · have HE : Hid (r = .ok acc) := Lib.hid (by rw [← HA.out, lexT_end f k s (by omega) (by omega)]; simp [pre])
        obtain ⟨A, c, rfl⟩ := Kd.R_slice HR.out
        clear HA HG hgw
        go_wp2_with fail
        rw [HE.out]
        exact bodyPost_ret (v := .agg #[.slice A acc.length c, .int .i64 0, .int .i64 0]) (by simp [results, Tryd.results17, go_sem, d0, d1, d2, df]) rfl ⟨_, rfl, Kd.R_lower (base := g + 1) (by repeat (first | exact HR.out | refine R_setBelow ?_ (by show w.heap.size < g + 1; omega) _)) (by omega), by repeat (first | exact HW.out | refine bl_set ?_ (Nat.le_refl _) _)⟩
end Go.Proofs.YtcajdkncohcaeaaDoor
