/-
  The program's forms walked: a map of the call's own; its look-ups. No condition. The program's Text of an event, kind by kind (words). Condition: the contracts of the callees, as hypotheses.
-/
import Derived.Test.YtcfgpojogomkhaaGreatDoorRows
import Derived.Test.YtcfgpojogomkhaaGreatDoorVa
import Derived.Maps.Own
import Derived.Maps.OwnSet
import Derived.StringKeys
import Derived.Test.YtcfgpojogomkhaaGreatDoorVt
import Derived.Test.YtcfgpojogomkhaaGreatDoorVq
import Derived.Test.YtcfgpojogomkhaaGreatDoorVu
import Derived.Deep.RegionWith
namespace Go.Proofs.YtcfgpojogomkhaaGreatDoor
open Go.RowKit Go.Maps Go.WideElems Go.WideShapes Go.ChangeShapes Go.WideMaps

/-- 'm[k] = v' of a composite literal, at the operation. -/
theorem wpList_insert_own {H : Type} {P : Program} (w : World) {ops : Array Oper} {rest : List Oper} {o : Oper} {a : Act} {Q : Exit → Act → World → Prop}
    (hg : o.guard = none) (m x v : Operand) (t : TypeId) (hop : o.op = Op.insert t m x v)
    (k e : TypeId) (K : Keyed P k) (ht : P.underlying t = some (.map k e)) (R : Value → Option (DataW H × List MemPlace)) (b n : Nat) (D : DataW H)
    (hm : a.eval m = .map (some b)) (hown : w.ownsMap P k R b n D) (hn : n < maxLen) (key val : Value) (kl : Lit) (hx : a.eval x = key) (hv : a.eval v = val) (hkey : keyOf P k key = some kl)
    (d : DataW H) (ps : List MemPlace) (hval : R val = some (d, ps))
    (hK : ∀ w', w'.ownsMap P k R b (n + 1) (D.put kl d) → w.grownBy w' (some b) → wpList P ops Q rest (a.put o.dst undef) w') :
    wpList P ops Q (o :: rest) a w := by
  refine wpList_plain hg fun K' hK' => ?_
  obtain ⟨w', hrun, r1, r2⟩ := hown.update K ht hn hkey hval
  unfold Oper.wp
  simp [execOp, hop, hm, hx, hv, hrun, Result.andThen]
  exact hK' _ _ (hK w' r1 r2)

/-- How an element reads: as itself. -/
def selfR (v : Value) : Option (DataW Value × List MemPlace) := some (.held v, [])
def litS (l : List UInt8) : Lit := .string l
def fmV (k : Int) (s : List UInt8) : Value := .agg #[.int .u8 k, .string ⟨s.toArray⟩]
def fmK1 : List UInt8 := [102, 105, 120]
def fmK2 : List UInt8 := [99, 104, 111, 105, 99, 101]
def fmK3 : List UInt8 := [118, 97, 108, 117, 101]
def fmK4 : List UInt8 := [115, 105, 100, 101]
def fmK5 : List UInt8 := [99, 97, 110, 99, 101, 108]
def formsD : DataW Value :=
  (((((DataW.map []).put (.string fmK1) (.held (fmV 1 [110, 100, 118]))).put (.string fmK2) (.held (fmV 2 [112, 110, 100, 115]))).put (.string fmK3) (.held (fmV 3 [116, 118]))).put (.string fmK4) (.held (fmV 4 [116, 115]))).put (.string fmK5) (.held (fmV 5 [116]))
theorem keyedS : Keyed Tryz.prog 9 := string_keyed Tryz.underlying9
theorem keyS (s : ByteArray) (h : s.size ≤ maxLen) : keyOf Tryz.prog 9 (.string s) = some (.string s.data.toList) := keyOf_string_mk Tryz.underlying9 h

set_option maxHeartbeats 2000000 in
set_option maxRecDepth 100000 in
theorem forms_any (w : World) : Calls Tryz.prog 31 #[] w fun e w' => e = .returned (.map (some w.heap.size)) ∧ w'.ownsMap Tryz.prog 9 selfR w.heap.size 5 formsD ∧ Below w.heap.size w w' := by
  have hmm := @run_makeMap Tryz.prog
  have h0 := World.ownsMap_made w Tryz.prog 9 selfR
  have b0 := own_below w (.map #[] 0)
  go_enter Tryz.func31, Tryz.ntmps31
  go_wp2_with (refine wpList_insert_own _ rfl _ _ _ 60 rfl 9 58 keyedS Tryz.underlying60 selfR w.heap.size 0 _ rfl h0 (by unfold maxLen; omega) _ _ _ rfl rfl (keyS ⟨#[102, 105, 120]⟩ (by decide)) _ [] rfl ?_)
  intro w1 h1 g1
  have b1 := b0.grown g1 (by simp) (fun k hk => by cases hk; exact Nat.le_refl _)
  clear h0 b0 g1
  go_wp2_with (refine wpList_insert_own _ rfl _ _ _ 60 rfl 9 58 keyedS Tryz.underlying60 selfR w.heap.size 1 _ rfl h1 (by unfold maxLen; omega) _ _ _ rfl rfl (keyS ⟨#[99, 104, 111, 105, 99, 101]⟩ (by decide)) _ [] rfl ?_)
  intro w2 h2 g2
  have b2 := b1.grown g2 b1.size (fun k hk => by cases hk; exact Nat.le_refl _)
  clear h1 b1 g2
  go_wp2_with (refine wpList_insert_own _ rfl _ _ _ 60 rfl 9 58 keyedS Tryz.underlying60 selfR w.heap.size 2 _ rfl h2 (by unfold maxLen; omega) _ _ _ rfl rfl (keyS ⟨#[118, 97, 108, 117, 101]⟩ (by decide)) _ [] rfl ?_)
  intro w3 h3 g3
  have b3 := b2.grown g3 b2.size (fun k hk => by cases hk; exact Nat.le_refl _)
  clear h2 b2 g3
  go_wp2_with (refine wpList_insert_own _ rfl _ _ _ 60 rfl 9 58 keyedS Tryz.underlying60 selfR w.heap.size 3 _ rfl h3 (by unfold maxLen; omega) _ _ _ rfl rfl (keyS ⟨#[115, 105, 100, 101]⟩ (by decide)) _ [] rfl ?_)
  intro w4 h4 g4
  have b4 := b3.grown g4 b3.size (fun k hk => by cases hk; exact Nat.le_refl _)
  clear h3 b3 g4
  go_wp2_with (refine wpList_insert_own _ rfl _ _ _ 60 rfl 9 58 keyedS Tryz.underlying60 selfR w.heap.size 4 _ rfl h4 (by unfold maxLen; omega) _ _ _ rfl rfl (keyS ⟨#[99, 97, 110, 99, 101, 108]⟩ (by decide)) _ [] rfl ?_)
  intro w5 h5 g5
  have b5 := b4.grown g5 b4.size (fun k hk => by cases hk; exact Nat.le_refl _)
  clear h4 b4 g5
  go_wp2_with fail
  go_ret
  exact ⟨rfl, h5, b5⟩

/-- A look-up in the forms: where the word is one of them. -/
theorem forms_hit {w : World} {b : Nat} (h : w.ownsMap Tryz.prog 9 selfR b 5 formsD) (s : ByteArray) (hs : s.size ≤ maxLen) (v : Value)
    (hat : formsD.atKey (.string s.data.toList) (.held (fmV 0 [])) = .held v) (hhas : Maps.has formsD (.string s.data.toList) = true) :
    (Instr.lookup 60 (.map (some b)) (.string s) true).run Tryz.prog w = .ok (.tuple #[v, .bool true]) w := by
  obtain ⟨x, ps, hrun, hx⟩ := h.look_ok keyedS Tryz.underlying60 (z := fmV 0 []) (by kernel_rfl) rfl (keyS s hs)
  rw [hat] at hx
  have : x = v := by
    have := congrArg (fun o => o.map (·.1)) hx
    simp [selfR] at this
    exact this
  rw [← this, hrun, hhas]

end Go.Proofs.YtcfgpojogomkhaaGreatDoor

namespace Go.Proofs.YtcfgpojogomkhaaGreatDoor
open Go.RowKit

/-- A call that returns a string and leaves the world as it was. -/
def RetS (W : World) (s : ByteArray) (e : Ending) (w' : World) : Prop := e = .returned (.string s) ∧ W = w'
/-- A text and an error are handed back. -/
def TPost (w : World) (s : ByteArray) (n : Int) (e : Ending) (w' : World) : Prop := e = .returned (.tuple #[.string s, .int .i64 n]) ∧ Below w.heap.size w w'
/-- A contract in every later world: the value that is handed back. -/
def Ct (w : World) (f : FuncId) (args : Array Value) (v : Value) : Prop := ∀ W : World, Below w.heap.size w W → Calls Tryz.prog f args W fun e w' => e = .returned v ∧ Below W.heap.size W w'
theorem Ct.use {w W : World} {f : FuncId} {args : Array Value} {v : Value} (h : Ct w f args v) (hb : Below w.heap.size w W) : Calls Tryz.prog f args W fun e w' => e = .returned v ∧ Below W.heap.size W w' := h W hb
theorem Ct.later {w W : World} {f : FuncId} {args : Array Value} {v : Value} (h : Ct w f args v) (hb : Below w.heap.size w W) : Ct W f args v := fun V hV => h V (hb.trans (hV.mono hb.size))
theorem infoStr : (Tryz.prog.info? 9).map (fun i => (i.zero, i.size, i.bytes)) = some (some (.string ByteArray.empty), 1, 16) := by kernel_rfl
theorem info_partsS {P : Program} {e : TypeId} {z : Value} {s b : Nat} (h : (P.info? e).map (fun i => (i.zero, i.size, i.bytes)) = some (some z, s, b)) : ∃ i, P.info? e = some i ∧ i.zero = some z ∧ i.size = s ∧ i.bytes = b := by
  obtain ⟨i, hi, he⟩ := Option.map_eq_some_iff.1 h
  simp only [Prod.mk.injEq] at he
  exact ⟨i, hi, he.1, he.2.1, he.2.2⟩
theorem rowAtN_S {w : World} {base size : Nat} {e : TypeId} {v : Value} {n : Nat} {xs : List Value} (h : w.ownsRow base e size v n xs) :
    (v = .slice none 0 0 ∧ n = 0 ∧ xs = []) ∨ ∃ g cap, v = .slice (some ⟨g, 0, none⟩) n cap ∧ base ≤ g ∧ n ≤ cap ∧ cap ≤ maxLen ∧ xs.length = n * size ∧ RowAt w g e xs := by
  obtain ⟨h1, h2⟩ := h
  rcases h2 with ⟨rfl, rfl⟩ | ⟨g, cap, cur, rfl, hb, hg, hn, hm, hs, ht⟩
  · exact .inl ⟨rfl, rfl, List.eq_nil_of_length_eq_zero (by simpa using h1)⟩
  · have hle : n * size ≤ cap * size := Nat.mul_le_mul_right _ hn
    refine .inr ⟨g, cap, rfl, hb, hn, hm, h1, cur, hg, by omega, fun i hi => ?_⟩
    rw [← ht, List.getElem?_take_of_lt (by omega)]
    simp
theorem side_yes (w : World) : Calls Tryz.prog 24 #[.bool true] w (RetS w ⟨#[121, 101, 115]⟩) := by
  go_enter Tryz.func24, Tryz.ntmps24
  go_wp2
  go_ret
  exact ⟨rfl, rfl⟩
theorem side_no (w : World) : Calls Tryz.prog 24 #[.bool false] w (RetS w ⟨#[110, 111]⟩) := by
  go_enter Tryz.func24, Tryz.ntmps24
  go_wp2
  go_ret
  exact ⟨rfl, rfl⟩

/-- A statement whose ways all end in one frame: what follows is walked once. -/
theorem wp_meet {P : Program} {c : Code} {Q : Exit → Act → World → Prop} {a : Act} {w : World} (A : Act) (W : World) (h : c.wp P (fun e a' w' => match e with | .normal => a' = A ∧ w' = W | _ => False) a w) (hq : Q .normal A W) : c.wp P Q a w :=
  Code.wp_mono (fun e a' w' h => by
    cases e <;> first | exact h.elim | (obtain ⟨h2, h3⟩ := h; subst h2 h3; exact hq)) h
/-- A world behind w, with two cells of the event. -/
structure AtW (w w5 : World) (i1 e1 : Int) (W : World) : Prop where
  b : Below w.heap.size w W
  c : Below w5.heap.size w5 W
  m1 : W.cell? ⟨w.heap.size, 1, none⟩ = some (.int .i64 i1)
  m2 : W.cell? ⟨w.heap.size, 2, none⟩ = some (.int .i64 e1)
  s : w.heap.size < W.heap.size
theorem AtW.drew {w w5 W : World} {i1 e1 : Int} (h : AtW w w5 i1 e1 W) : AtW w w5 i1 e1 W.drew := ⟨h.b.drew, h.c.drew, h.m1, h.m2, h.s⟩
theorem AtW.next {w w5 W w' : World} {i1 e1 : Int} (h : AtW w w5 i1 e1 W) (hb : Below W.heap.size W w') : AtW w w5 i1 e1 w' :=
  ⟨h.b.trans (hb.mono h.b.size), h.c.trans (hb.mono h.c.size), ((bcell hb).1 _ _ h.s).trans h.m1, ((bcell hb).1 _ _ h.s).trans h.m2, Nat.lt_of_lt_of_le h.s hb.size⟩

end Go.Proofs.YtcfgpojogomkhaaGreatDoor
