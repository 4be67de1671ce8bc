import Derived.Test.YtcajdkncohcaeaaDoorLxH
import Derived.Test.YtcajdkncohcaeaaDoorWWords
import Derived.Test.YtcajdkncohcaeaaDoorWEqStruct
namespace Go.Proofs.YtcajdkncohcaeaaDoor
set_option linter.unusedVariables false
set_option linter.unusedSimpArgs false
open Go.RowKit Go.Proofs.YtcajdkncohcaeaaDoorW.PrintWords

structure Tok where
  kind : Int
  text : ByteArray
  pos : Int
deriving DecidableEq
def zTok : Tok := ⟨(0 : Int), (⟨#[]⟩ : ByteArray), (0 : Int)⟩
def kTok : Kd Tok := Kd.iso (Kd.pair (Kd.int .i64) (Kd.pair Kd.string (Kd.int .i64))) (fun x : Tok => (x.kind, x.text, x.pos))
def cTok (x : Tok) : List Value := [.int .i64 x.kind, .string x.text, .int .i64 x.pos]
theorem infoTok : (Tryd.prog.info? 36).map (fun i => (i.zero, i.size, i.bytes)) = some (some (.agg #[(.int .i64 0), (.string ⟨#[]⟩), (.int .i64 0)]), 3, 32) := by kernel_rfl
theorem kTok_open {w : World} {x : Tok} {cs : List Value} (h : kTok.K w x cs) : cs = [.int .i64 x.kind, .string x.text, .int .i64 x.pos] := by
  obtain ⟨_, _, rfl, rfl, ⟨_, _, rfl, rfl, rfl⟩⟩ := h
  exact rfl
theorem kTok_mk (w : World) (x : Tok) : kTok.K w x [.int .i64 x.kind, .string x.text, .int .i64 x.pos] := ⟨[.int .i64 x.kind], [.string x.text, .int .i64 x.pos], rfl, rfl, ⟨[.string x.text], [.int .i64 x.pos], rfl, rfl, rfl⟩⟩
theorem kTok_mkM (w : World) (base : Nat) (ok : Nat → Prop) (x : Tok) : kTok.M w base ok x [.int .i64 x.kind, .string x.text, .int .i64 x.pos] := ⟨[.int .i64 x.kind], [.string x.text, .int .i64 x.pos], rfl, rfl, ⟨[.string x.text], [.int .i64 x.pos], rfl, rfl, rfl⟩⟩
theorem atTok {w : World} {A : Option Addr} {n : Nat} {xs : List Tok} (h : Kd.C kTok w A n xs) (i : Int) (h0 : 0 ≤ i) (h1 : i < n) : ∃ ad, A = some ad ∧ w.cell? (ad.add (i.toNat * 3)) = some (.int .i64 (xs.getD i.toNat zTok).kind) ∧ w.cell? ⟨(ad.add (i.toNat * 3)).block, (ad.add (i.toNat * 3)).off + 1, none⟩ = some (.string (xs.getD i.toNat zTok).text) ∧ w.cell? ⟨(ad.add (i.toNat * 3)).block, (ad.add (i.toNat * 3)).off + 2, none⟩ = some (.int .i64 (xs.getD i.toNat zTok).pos) := by
  obtain ⟨ad, c, e, _, hK, hc0⟩ := Kd.C_get h zTok i h0 h1
  have hc : ∀ j u, c[j]? = some u → w.cell? (ad.add (i.toNat * 3 + j)) = some u := hc0
  obtain rfl := kTok_open hK
  exact ⟨ad, e, hc 0 _ rfl, by rw [← add_field _ _ 1 (by omega)]; exact hc 1 _ rfl, by rw [← add_field _ _ 2 (by omega)]; exact hc 2 _ rfl⟩
theorem eqTok (d : Nat) (w : World) (x0 y0 : Int) (x1 y1 : ByteArray) (x2 y2 : Int) :
    (Op.equalIn (d + 2) 36 (.agg #[.int .i64 x0, .string x1, .int .i64 x2]) (.agg #[.int .i64 y0, .string y1, .int .i64 y2])).run Tryd.prog w = .ok ((x0 == y0) && ((x1.toList == y1.toList) && (x2 == y2))) w := by
  refine eqA_of Tryd.underlying36 (by kernel_rfl) ?_
  refine eqf_cons (by rfl) (by go_simp; rfl) (by go_simp; rfl) (by go_simp) ?_
  refine eqf_cons (by rfl) (by go_simp; rfl) (by go_simp; rfl) (by go_simp) ?_
  exact eqf_last (by rfl) (by go_simp; rfl) (by go_simp; rfl) (by go_simp)
structure Flt where
  err : Int
  pos : Int
deriving DecidableEq
def zFlt : Flt := ⟨(0 : Int), (0 : Int)⟩
def kFlt : Kd Flt := Kd.iso (Kd.pair (Kd.int .i64) (Kd.int .i64)) (fun x : Flt => (x.err, x.pos))
def cFlt (x : Flt) : List Value := [.int .i64 x.err, .int .i64 x.pos]
theorem infoFlt : (Tryd.prog.info? 26).map (fun i => (i.zero, i.size, i.bytes)) = some (some (.agg #[(.int .i64 0), (.int .i64 0)]), 2, 16) := by kernel_rfl
theorem kFlt_open {w : World} {x : Flt} {cs : List Value} (h : kFlt.K w x cs) : cs = [.int .i64 x.err, .int .i64 x.pos] := by
  obtain ⟨_, _, rfl, rfl, rfl⟩ := h
  exact rfl
theorem kFlt_mk (w : World) (x : Flt) : kFlt.K w x [.int .i64 x.err, .int .i64 x.pos] := ⟨[.int .i64 x.err], [.int .i64 x.pos], rfl, rfl, rfl⟩
theorem kFlt_mkM (w : World) (base : Nat) (ok : Nat → Prop) (x : Flt) : kFlt.M w base ok x [.int .i64 x.err, .int .i64 x.pos] := ⟨[.int .i64 x.err], [.int .i64 x.pos], rfl, rfl, rfl⟩
theorem atFlt {w : World} {A : Option Addr} {n : Nat} {xs : List Flt} (h : Kd.C kFlt w A n xs) (i : Int) (h0 : 0 ≤ i) (h1 : i < n) : ∃ ad, A = some ad ∧ w.cell? (ad.add (i.toNat * 2)) = some (.int .i64 (xs.getD i.toNat zFlt).err) ∧ w.cell? ⟨(ad.add (i.toNat * 2)).block, (ad.add (i.toNat * 2)).off + 1, none⟩ = some (.int .i64 (xs.getD i.toNat zFlt).pos) := by
  obtain ⟨ad, c, e, _, hK, hc0⟩ := Kd.C_get h zFlt i h0 h1
  have hc : ∀ j u, c[j]? = some u → w.cell? (ad.add (i.toNat * 2 + j)) = some u := hc0
  obtain rfl := kFlt_open hK
  exact ⟨ad, e, hc 0 _ rfl, by rw [← add_field _ _ 1 (by omega)]; exact hc 1 _ rfl⟩
theorem eqFlt (d : Nat) (w : World) (x0 y0 : Int) (x1 y1 : Int) :
    (Op.equalIn (d + 2) 26 (.agg #[.int .i64 x0, .int .i64 x1]) (.agg #[.int .i64 y0, .int .i64 y1])).run Tryd.prog w = .ok ((x0 == y0) && (x1 == y1)) w := by
  refine eqA_of Tryd.underlying26 (by kernel_rfl) ?_
  refine eqf_cons (by rfl) (by go_simp; rfl) (by go_simp; rfl) (by go_simp) ?_
  exact eqf_last (by rfl) (by go_simp; rfl) (by go_simp; rfl) (by go_simp)

/-- a row's blocks lie below the heap's size -/
theorem R_lt {α : Type} {d : Kd α} {e : Nat} {w : World} {base : Nat} {ok : Nat → Prop} {v : Value} {xs : List α} (h : d.R e w base ok v xs) : d.R e w base (fun k => k < w.heap.size) v xs :=
  Kd.R_mono (Kd.R_bound h) (fun _ hk => hk.2.2.1)

/-- a store below a row's base leaves the row -/
theorem R_setBelow {α : Type} {d : Kd α} {e : Nat} {w : World} {base : Nat} {ok : Nat → Prop} {v : Value} {xs : List α} (h : d.R e w base ok v xs) {p : Addr} (hp : p.block < base) (u : Value) : d.R e (w.setCell p u) base ok v xs :=
  Kd.R_mono (Kd.R_far (Kd.R_bound h) (fun k hk => by have := hk.2.1; omega) u) (fun _ hk => hk.1)

def consTok (t : Tok) : Except Nat (List Tok) → Except Nat (List Tok)
  | .ok l => .ok (t :: l)
  | .error e => .error e
/-- tokens from a place on, behind blanks; how many rounds; or where none begins -/
def lexA : Nat → Nat → ByteArray → Except Nat (List Tok)
  | 0, _, _ => .ok []
  | f + 1, at_, s =>
    if at_ < s.size then
      let t := tokTk (s.extract at_ s.size)
      if t.2.2 = 0 then .error at_
      else consTok ⟨t.1, t.2.1, at_⟩ (lexA f (at_ + t.2.2 + skipL false (s.data.toList.drop (at_ + t.2.2))) s)
    else .ok []
def lexAll (s : ByteArray) : Except Nat (List Tok) := lexA (s.size + 1) (skipL false s.data.toList) s
def finTok : Except Nat (List Tok) → List Tok × Int × Int
  | .ok l => (l, 0, 0)
  | .error e => ([], 11, e)
/-- the tokens, the fault -/
def tokensOf (s : ByteArray) : List Tok × Int × Int := if s.size > 4000 then ([], 2, 0) else finTok (lexAll s)
end Go.Proofs.YtcajdkncohcaeaaDoor
