import Derived.Test.YtcajdkncohcaeaaDoorLxW
import Derived.Test.YtcajdkncohcaeaaDoorLxXa
import Derived.Deep.DeepCutAuto
import Derived.Deep.RegionLaw
namespace Go.Proofs.YtcajdkncohcaeaaDoor
set_option linter.unusedVariables false
set_option linter.unusedSimpArgs false
open Go.RowKit Go.Proofs.YtcajdkncohcaeaaDoorW.PrintWords

def RTokensPost (t : List Tok × Int × Int) (w : World) (e : Ending) (w' : World) : Prop :=
  ∃ v, e = .returned (.agg #[v, .int .i64 t.2.1, .int .i64 t.2.2]) ∧ Kd.R kTok 36 w' w.heap.size (fun _ => True) v t.1 ∧ Below w.heap.size w w'
def gotBlk (v : Value) : Obj := .cells #[v, .int .i64 0, .int .i64 0] 30 (0, 0)
/-- where the reference's loop stands -/
def RTk (w0 : World) (g : Nat) (s : ByteArray) (r : Except Nat (List Tok)) (k : Nat) (wr : World) : Prop :=
  ∃ (f : Nat) (acc : List Tok) (v : Value), k ≤ s.size ∧ s.size - k < f ∧ acc.length ≤ k ∧ pre acc (lexT f k s) = r ∧ wr.heap[g]? = some (gotBlk v) ∧
    Kd.R kTok 36 wr (g + 1) (fun _ => True) v acc ∧ Below g w0 wr

theorem lenL_pos (c : UInt8) (l : List UInt8) (h : isDigit c.toNat = true) : 0 < lenL (c :: l) := by
  have h1 : runL (c :: l) = runL l + 1 := by rw [runL, if_pos h]
  have h2 : runL (c :: l) ≤ fracL (c :: l) (runL (c :: l)) := by unfold fracL; split <;> omega
  rw [lenL, if_neg (by omega)]; omega


/-! ### the loop's round, each case a theorem of its own -/
def firstLoop : Code → Option Code
  | .loop c => some c
  | .seq a b => match firstLoop a with
    | some c => some c
    | none => firstLoop b
  | .block _ c => firstLoop c
  | .scope c => firstLoop c
  | .cond _ a b => match firstLoop a with
    | some c => some c
    | none => firstLoop b
  | _ => none
noncomputable def rBody : Code := (Tryd.f17.body.bind firstLoop).getD .skip
set_option maxRecDepth 1000000 in
def rQ (s : ByteArray) (w w0 : World) (g : Nat) (r : Except Nat (List Tok)) (K : Act → World → Prop) (fr : Array Value) : Exit → Act → World → Prop :=
  Exit.then (fun a' w' => (∃ u4 u5 u6 u7 u13 u14 u15 u16 u17 u18 u19 u20 u21 u22 u23 u24 u25 u26 u27 u28 u29 u30 u31 u32 u33 u34 u35 u36 u37 u38 u39 u40 u41 u42 u43 u44 u45 u46 u47 u48 u49 u50 u51 u52 u53 u54 u55 u56 u57 u58 u59 u60 u61 u62 u63 u64 u65 u66 u67 u68 u69 u70 u71 u72 u73 u74 u75 u76 u77 u78 u79 u80 u81 u82 u83 u84 u85 u86 u87 u88 u89 u90 u91 u92 u93 u94 u95 u96 u97 u98 u99 u100 u101 u102 u103 u104 u105 u106 u107 u108 u109 u110 u111 u112 u113 u114 u115 u116 u117 u118 u119 u120 u121 u122 u123 u124 u125 u126 u127 u128 u129 u130 u131 u132 u133 u134 u135 u136 u137 u138 u139 u140 u141 u142 u143 u144 u145 u146 u147 u148 u149 u150 u151 u152 u153 u154 u155 u156 u157 u158 u159 u160 u161 u162 u163 u164 u165 u166 u167 u168 u169 u170 u171 u172 u173 u174 u175 u176 u177 u178 u179 u180 u181 u182 u183 u184 u185 u186 u187 u188 u189 u190 u191 u192 u193 u194 u195 u196 u197 u198 u199 u200 u201 u202 u203 u204 u205 u206 u207 u208 u209 u210 u211 u212 u213 u214 u215 u216 u217 u218 u219 u220 u221 u222 u223 u224 u225 u226 u227 u228 u229 u230 u231 u232 u233 u234 u235 u236 u237 u238 u239 u240 u241 u242 : Value, (∃ k : Nat, u4 = .int .i64 k ∧ RTk w0 g s r k w') ∧ a' = ({ tmps := #[.string s, undef, .pointer (some ⟨w.heap.size, 0, none⟩), .pointer (some ⟨g, 0, none⟩), u4, u5, u6, u7, .string s, .int .i64 (s.size : Int), .bool (decide ((4000 : Int) < (s.size : Int))), undef, .agg #[.slice none 0 0, .int .i64 0, .int .i64 0], u13, u14, u15, u16, u17, u18, u19, u20, u21, u22, u23, u24, u25, u26, u27, u28, u29, u30, u31, u32, u33, u34, u35, u36, u37, u38, u39, u40, u41, u42, u43, u44, u45, u46, u47, u48, u49, u50, u51, u52, u53, u54, u55, u56, u57, u58, u59, u60, u61, u62, u63, u64, u65, u66, u67, u68, u69, u70, u71, u72, u73, u74, u75, u76, u77, u78, u79, u80, u81, u82, u83, u84, u85, u86, u87, u88, u89, u90, u91, u92, u93, u94, u95, u96, u97, u98, u99, u100, u101, u102, u103, u104, u105, u106, u107, u108, u109, u110, u111, u112, u113, u114, u115, u116, u117, u118, u119, u120, u121, u122, u123, u124, u125, u126, u127, u128, u129, u130, u131, u132, u133, u134, u135, u136, u137, u138, u139, u140, u141, u142, u143, u144, u145, u146, u147, u148, u149, u150, u151, u152, u153, u154, u155, u156, u157, u158, u159, u160, u161, u162, u163, u164, u165, u166, u167, u168, u169, u170, u171, u172, u173, u174, u175, u176, u177, u178, u179, u180, u181, u182, u183, u184, u185, u186, u187, u188, u189, u190, u191, u192, u193, u194, u195, u196, u197, u198, u199, u200, u201, u202, u203, u204, u205, u206, u207, u208, u209, u210, u211, u212, u213, u214, u215, u216, u217, u218, u219, u220, u221, u222, u223, u224, u225, u226, u227, u228, u229, u230, u231, u232, u233, u234, u235, u236, u237, u238, u239, u240, u241, u242, undef], defers := [] } : Act)) ∧ s.size - (intOf (a'.tmps.getD 4 undef)).toNat < s.size - (intOf (fr.getD 4 undef)).toNat)
    (Exit.inBlock 0 (Exit.then K (bodyPost Tryd.prog Tryd.f17 (RTokensPost (finTok r) w))))
end Go.Proofs.YtcajdkncohcaeaaDoor
