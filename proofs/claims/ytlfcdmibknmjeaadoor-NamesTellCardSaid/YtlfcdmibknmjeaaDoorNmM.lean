import Derived.Test.YtlfcdmibknmjeaaDoorNmL
namespace Go.Proofs.YtlfcdmibknmjeaaDoor.E
open Go Go.Proofs.YtlfcdmibknmjeaaDoor.Ev
theorem twice_pure {l : List Dcl} (h : ScriptOk l) {n : Int} (hn : 0 ≤ n ∧ n ≤ 255) : Evw (fun k => law17_NamesTwice.f k l n) (· = true) := by
  unfold law17_NamesTwice.f law17_NamesTwice.b
  refine .bind (R := fun y => y = (l, (n, true)) ∨ (y = (l, (n, false)) ∧ 0 < l.length ∧ l.length < 60 ∧ @Eq Int (checkD l).1 0)) ?_ fun y hy => ?_
  · refine .bind (large_ev h) fun b _ => .cond (fun _ => .pure (.inl rfl)) fun _ => .cond (fun _ => .pure (.inl rfl)) fun h0 => .dec (fun _ => .pure (.inl rfl)) fun h1 => .bind (checkD_ev h) fun f hf => ?_
    have h0 : l.length ≠ 0 := by
      intro e
      rw [e] at h0
      cases h0
    rw [hf]
    cases hc : (checkD l).1 != (0 : Int) with
    | true => exact .pure (.inl rfl)
    | false => exact .pure (.inr ⟨rfl, by omega, by omega, by simpa using hc⟩)
  · rcases hy with rfl | ⟨rfl, h0, h1, h2⟩
    · exact .ct rfl (wakes_ret rfl)
    · have t0 : 0 ≤ Int.tmod n (l.length : Int) := Int.tmod_nonneg _ hn.1
      have t1 : Int.tmod n (l.length : Int) < (l.length : Int) := Int.tmod_lt_of_pos _ (by omega)
      dsimp only
      rw [wrap64 (n := n) (by omega) (by omega)]
      refine .cf rfl (.df (by omega) (.dt ⟨t0, t1⟩ ?_))
      have hmem := rdL_mem (Ty.zero api_Decl) l (Int.tmod n (l.length : Int)) t0 t1
      generalize rdL (Ty.zero api_Decl) l (Int.tmod n (l.length : Int)) = d at hmem ⊢
      obtain ⟨hm, hnn⟩ := check_none h2
      have hgood : ∀ x ∈ l, goodD x = true := by
        unfold mayD at hm
        simp only [Bool.and_eq_true, List.all_eq_true] at hm
        exact hm.1
      have htree : ∀ x ∈ l, x.2.2.2.2.2.2.1.length ≤ 6000 := fun x hx => by have := good_tree (hgood x hx); omega
      refine kb (own_tree (htree d hmem)) ?_
      refine .bindv (x := ((twD d).1, ((twD d).2.1, ((twD d).2.2.1, ((twD d).2.2.2.1, ((twD d).2.2.2.2.1, ((twD d).2.2.2.2.2.1, ((twD d).2.2.2.2.2.2.1, ((twD d).2.2.2.2.2.2.2.1, ((twD d).2.2.2.2.2.2.2.2.1, l)))))))))) ?_ ?_
      · refine .cond (fun e => .pure ?_) fun e => .pure ?_
        · unfold twD; rw [e]; rfl
        · unfold twD; rw [e]; rfl
      · have own := own_ev (l := l) (by omega) htree
        have hd := h.decl d hmem
        refine .bindv own (.dt (show l.length + 1 ≤ 68719476736 by omega) (.bindv (x := ((14 : Int), ((7777 : Int), ()))) ?_ ?_))
        · have := checkD_ev (snoc_ok h h1 (twD_ok hd))
          rw [check_twice h2 h1 hmem] at this
          exact this
        · refine .bindv own (.dt (show l.length + 1 ≤ 68719476736 by omega) (.ret (.ct rfl (.bindv (x := checkD (l ++ [dZ])) (checkD_ev (snoc_ok h h1 dZ_ok)) (.bindv (has_ev (l := l) _ (show l.length ≤ 6000 by omega)) ?_)))))
          refine .ct ?_ (wakes_ret rfl)
          rw [check_zz h2 h1]
          cases hasD l (ByteArray.mk #[122, 122, 95, 110, 111, 110, 101]) <;> rfl
end Go.Proofs.YtlfcdmibknmjeaaDoor.E
