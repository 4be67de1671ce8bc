import Derived.Test.YtcajdkncohcaeaaDoorXTrD
namespace Go.Proofs.YtcajdkncohcaeaaDoor
set_option linter.unusedVariables false
set_option linter.unusedSimpArgs false
open Go.RowKit Go.Proofs.YtcajdkncohcaeaaDoorW.PrintWords Go.Proofs.YtcajdkncohcaeaaDoorW.PrintMore
def beginF (kd l r n : Int) (tx un : ByteArray) (fr : List Int) : Option (Int × Bool) :=
  if tx.size ≤ 140737488351232 ∧ (fr.length : Int) < 4611686018427387904 then
    if kd = 1 then some ((fr.length : Int), (n == 0) && ((l == 0) && ((r == 0) && (goodL tx && unitB un))))
    else if kd = 2 then some ((fr.length : Int), (n == 0 && un.toList == []) && ((l == 0) && ((r == 0) && isName tx)))
    else if kd = 7 ∨ kd = 8 then
      if (fr.length : Int) < 1 ∨ l ≠ (fr.length : Int) - 1 ∨ r ≠ 0 then some (0, false)
      else some (rd fr l, (tx.toList == [] && un.toList == []) && ((kd == 8 || n == 0) && (decide (-64 ≤ mn n 0) && decide (n ≤ 64))))
    else if 3 ≤ kd ∧ kd ≤ 6 then
      if (fr.length : Int) < 2 ∨ r ≠ (fr.length : Int) - 1 then some (0, false)
      else if -4611686018427387904 ≤ rd fr r ∧ rd fr r ≤ 4611686018427387904 then
        if l ≠ rd fr r - 1 ∨ l < 0 then some (0, false)
        else if l < (fr.length : Int) then some (rd fr l, (n == 0) && (tx.toList == [] && un.toList == [])) else none
      else none
    else some (0, false)
  else none
theorem begin_calls (a0_0 a0_1 a0_2 a0_3 : Int) (a0_4 a0_5 : ByteArray) (a0_6 : Int) (A1 : Option Addr) (c1 : Nat) (l1 : List Int) (r1 : Int) (r2 : Bool) (w : World) (hr1 : Kd.C (Kd.int .i64) w A1 l1.length l1) (h : beginF a0_0 a0_1 a0_2 a0_3 a0_4 a0_5 l1 = some (r1, r2)) (hG : Glob w) :
    Calls Tryd.prog 64 #[.agg #[.int .i64 a0_0, .int .i64 a0_1, .int .i64 a0_2, .int .i64 a0_3, .string a0_4, .string a0_5, .int .i64 a0_6], .slice A1 l1.length c1] w fun e w' => e = .returned (.tuple #[.int .i64 r1, .bool r2]) ∧ Below w.heap.size w w' := by
  unfold beginF at h
  split at h
  case isFalse => cases h
  case isTrue hs =>
  obtain ⟨ht, hm⟩ := hs
  split at h
  case isTrue hk =>
    subst hk
    obtain ⟨rfl, rfl⟩ := Prod.mk.inj (Option.some.inj h)
    exact tbegin_lit a0_1 a0_2 a0_3 a0_6 a0_4 a0_5 A1 _ c1 w ht hG
  case isFalse hk1 =>
  split at h
  case isTrue hk =>
    subst hk
    obtain ⟨rfl, rfl⟩ := Prod.mk.inj (Option.some.inj h)
    exact tbegin_ref a0_1 a0_2 a0_3 a0_6 a0_4 a0_5 A1 _ c1 w ht hG
  case isFalse hk2 =>
  split at h
  case isTrue hk =>
    split at h
    case isTrue hno =>
      obtain ⟨rfl, rfl⟩ := Prod.mk.inj (Option.some.inj h)
      rcases hk with rfl | rfl
      · exact tbegin_over7_no a0_1 a0_2 a0_3 a0_6 a0_4 a0_5 A1 _ c1 w hm hno hG
      · exact tbegin_over8_no a0_1 a0_2 a0_3 a0_6 a0_4 a0_5 A1 _ c1 w hm hno hG
    case isFalse hno =>
      obtain ⟨rfl, rfl⟩ := Prod.mk.inj (Option.some.inj h)
      have h1 : 1 ≤ (l1.length : Int) := by omega
      have hl : a0_1 = (l1.length : Int) - 1 := by omega
      have hr : a0_2 = 0 := by omega
      obtain ⟨ad, rfl, hx⟩ := Kd.at_int hr1 a0_1 (by omega) (by omega)
      rcases hk with rfl | rfl
      · exact tbegin_over7 a0_1 a0_2 a0_3 a0_6 a0_4 a0_5 ad _ c1 _ w hm hl h1 hr hx hG
      · exact tbegin_over8 a0_1 a0_2 a0_3 a0_6 a0_4 a0_5 ad _ c1 _ w hm hl h1 hr hx hG
  case isFalse hk3 =>
  split at h
  case isTrue hk =>
    split at h
    case isTrue hno =>
      obtain ⟨rfl, rfl⟩ := Prod.mk.inj (Option.some.inj h)
      exact tbegin_two_noA a0_0 a0_1 a0_2 a0_3 a0_6 a0_4 a0_5 A1 _ c1 w hk hm hno hG
    case isFalse hno =>
      have h2 : 2 ≤ (l1.length : Int) := by omega
      have hr : a0_2 = (l1.length : Int) - 1 := by omega
      split at h
      case isFalse => cases h
      case isTrue he =>
      obtain ⟨ad, rfl, hx⟩ := Kd.at_int hr1 a0_2 (by omega) (by omega)
      split at h
      case isTrue hno2 =>
        obtain ⟨rfl, rfl⟩ := Prod.mk.inj (Option.some.inj h)
        exact tbegin_two_noC a0_0 a0_1 a0_2 a0_3 a0_6 a0_4 a0_5 ad _ c1 _ w hk hm h2 hr hx he hno2 hG
      case isFalse hno2 =>
        split at h
        case isFalse => cases h
        case isTrue hlm =>
        obtain ⟨rfl, rfl⟩ := Prod.mk.inj (Option.some.inj h)
        obtain ⟨ad2, e2, hx2⟩ := Kd.at_int hr1 a0_1 (by omega) hlm
        obtain rfl := Option.some.inj e2
        exact tbegin_two a0_0 a0_1 a0_2 a0_3 a0_6 a0_4 a0_5 ad _ c1 _ _ w hk hm h2 hr hx he (by omega) (by omega) hlm hx2 hG
  case isFalse hk4 =>
    obtain ⟨rfl, rfl⟩ := Prod.mk.inj (Option.some.inj h)
    exact tbegin_none a0_0 a0_1 a0_2 a0_3 a0_6 a0_4 a0_5 A1 _ c1 w (by omega) hG
end Go.Proofs.YtcajdkncohcaeaaDoor
