/-
  From a row's conditions to what the package-level variables hold; the wrap that keeps the world's shape. No condition. From a row's conditions to what the package-level variables hold (the table of functions among them); the witness. No condition.
-/
import Derived.Test.YtnikhbdjlipcbaaGreatDoorRows
import Derived.Test.YtnikhbdjlipcbaaGreatDoorVy
import Derived.Handed
import Derived.LaidLaws
import Derived.Lib.LaidTab
import Derived.Shelf.Vars
import Derived.Stop.LaidErr
import Derived.Test.YtnikhbdjlipcbaaGreatDoorVu
import Derived.LaidMore
import Derived.LaidHandle
namespace Go
variable {H : Type} {enc : TypeId × Value → H}
/-- 'returnsInHanded_of_change_and', the world's shape kept. -/
theorem handed_shaped_and {a : Assume} {C : Checked} {os : Os} {f : FuncId} {fn : Func} {s : ChangeSpec} {conds : List PathCond} {apart fresh handsOn again : Bool} {X : World → Array Value → Prop}
    (hX : ∀ (w w' : World) (args : Array Value), w.heap = w'.heap → X w args → X w' args)
    (own : ownKnob C.prog.godebug = none) (started : os.Started) (noInit : C.prog.inits.idxOf? f = none) (hfn : C.prog.funcs[f]? = some fn)
    (witness : ∃ (w : World) (tape : Tape) (i : Input), w.os = os ∧ (w.forCall tape i).Shaped C.prog ∧ i.vars = [] ∧ Input.okWide C.prog (w.forCall tape i) .any w.heap.size f i ∧
      ((s.pre enc C.prog fn conds apart (w.forCall tape i).memory i.args ∧ X (w.forCall tape i).memory i.args) ∧ sizedMet enc C.prog fn (OpenSpec.ofChange s) apart (w.forCall tape i).memory i.args) ∧ a.holds C.prog (lone (Frame.enter C.prog f i.args .normal) [] (w.forCall tape i)))
    (contract : ∀ (W : World) (base : Nat) (args : Array Value) (ds gs : List (DataW H)) (before : List MemPlace),
      (∀ (j : Nat) t v, fn.params[j]? = some t → args[j]? = some v → Value.okWide C.prog W .any base t v) →
      DataW.Whole enc C.prog fn.params.toList s.vars apart W args.toList ds gs before →
      conds.all (PathCond.test C.prog ⟨fn.params.toList, ds, s.plain.varTypes C.prog, gs⟩) = true →
      (DataW.weightsEach C.prog (fn.params.toList ++ s.plain.varTypes C.prog) (ds ++ gs)).all (· ≤ reachBytes) = true → X W args →
      W.ShapedOpen C.prog →
      a.holds C.prog (lone (Frame.enter C.prog f args .normal) [] W) →
      Calls C.prog f args W fun e W' => ∃ v, e = .returned v ∧ s.post enc C.prog fn apart fresh handsOn again W args v W') :
    ReturnsInHanded a C os f .any (fun w args => (s.pre enc C.prog fn conds apart w args ∧ X w args) ∧ sizedMet enc C.prog fn (OpenSpec.ofChange s) apart w args) (s.post enc C.prog fn apart fresh handsOn again) := by
  refine returnsInHanded_of_calls own started noInit witness ?_
  intro w tape i _ hsh _ hok hpre hholds
  obtain ⟨_, _, _, fn', hfn', _, _, _, _, hval⟩ := hok
  have e : fn' = fn := Option.some.inj (hfn'.symm.trans hfn)
  subst e
  obtain ⟨⟨⟨ds, gs, before, hw, hc⟩, hx⟩, hz⟩ := hpre
  have hw' := DataW.Whole.of_heap (w' := w.forCall tape i) (by rfl) hw
  refine (contract (w.forCall tape i) w.heap.size i.args ds gs before hval hw' hc (hz.weights hw) (hX _ _ _ (by rfl) hx) hsh hholds).mono fun e W' ⟨v, he, hp⟩ => ?_
  subst he
  exact ChangeSpec.post_blind hp
end Go
namespace Go.Proofs.YtnikhbdjlipcbaaGreatDoor
open Go.RowKit

/-- A variable of an interface type that stands first on the list, laid as some value. -/
theorem sent_of_head {P : Program} {W : World} {name nm : String} {d : DataW Unit} {rest : List (String × DataW Unit)} {g : Nat} {t : TypeId} {ms : Array (String × TypeId)}
    (hg : P.globalNamed name = some g) (hty : (P.globals[g]?).map (·.type) = some t) (hi : P.underlying t = some (.interface ms))
    (h : laidMet P ((name, .iface nm d) :: rest) W) : ∃ ev, W.cell? ⟨g, 0, none⟩ = some ev ∧ (ev = .nilIface ∨ ∃ te pe, ev = .iface te pe) := by
  obtain ⟨ps, ⟨g', t', cs, fuel, p, q, hg', ht', hvar, hd, _, _⟩, _⟩ := h
  obtain rfl := Option.some.inj (hg.symm.trans hg')
  obtain rfl := Option.some.inj (hty.symm.trans ht')
  obtain ⟨_, u, v, hcs, _, _⟩ := iface_of_trod hi hd
  refine ⟨.iface u v, ?_, .inr ⟨u, v, rfl⟩⟩
  have h0 := World.var?_cell hg hvar 0
  have e0 : cs[0]? = some (.iface u v) := by rw [← Array.getElem?_toList, hcs]; rfl
  rw [h0]
  exact e0

end Go.Proofs.YtnikhbdjlipcbaaGreatDoor

namespace Go.Proofs.YtnikhbdjlipcbaaGreatDoor
open Go.RowKit

/-- A table of functions that is an array. -/
theorem open_farr {P : Program} {W : World} {H : Type} {enc : TypeId × Value → H} {base : Nat} {sp : Nat → Bool} {held : Bool} {t e n : Nat} {fuel : Nat} {cs : List Value} {ds : List (DataW H)} {p : List MemPlace}
    (ht : P.underlying t = some (.array n e)) (hc : P.cellsOf e = 1) (hn : P.cellsOf t = n)
    (h : DataW.trod enc P W base sp held fuel t cs = some (.agg ds, p)) :
    cs.length = n ∧ ∀ (i : Nat) (d : DataW H), ds[i]? = some d → ∃ v m q, cs[i]? = some v ∧ DataW.trod enc P W base sp held m e [v] = some (d, q) := by
  cases fuel with
  | zero => simp [DataW.trod] at h
  | succ m =>
    unfold DataW.trod at h
    rw [ht] at h
    simp only at h
    by_cases hl : cs.length = P.cellsOf t
    · rw [if_pos hl] at h
      cases hm : (List.range n).mapM fun i => DataW.trod enc P W base sp held m e ((cs.drop (i * P.cellsOf e)).take (P.cellsOf e)) with
      | none => rw [hm] at h; simp at h
      | some xs =>
        rw [hm] at h
        simp only [Option.map_some, Option.some.injEq, Prod.mk.injEq, DataW.agg.injEq] at h
        obtain ⟨hx, _⟩ := h
        have hlen : xs.length = n := by simpa using mapM_some_length hm
        refine ⟨hl.trans hn, fun i d hd => ?_⟩
        rw [← hx, List.getElem?_map] at hd
        cases hy : xs[i]? with
        | none => rw [hy] at hd; simp at hd
        | some y =>
          rw [hy] at hd
          simp only [Option.map_some, Option.some.injEq] at hd
          have hi : i < n := by rw [← hlen]; exact (List.getElem?_eq_some_iff.1 hy).1
          have hg := mapM_some_get hm i i (by simp [hi])
          rw [hc, Nat.mul_one] at hg
          have hcs : i < cs.length := by rw [hl, hn]; exact hi
          have hone : (cs.drop i).take 1 = [cs[i]] := by
            rw [List.drop_eq_getElem_cons hcs]; rfl
          rw [hone] at hg
          refine ⟨cs[i], m, y.2, List.getElem?_eq_getElem hcs, ?_⟩
          rw [hg, hy, ← hd]
    · rw [if_neg hl] at h; simp at h

theorem laidMetH_data {P : Program} {l : List (String × DataW Unit)} {w : World} (h : laidMetH P l w) (x : String × DataW Unit) (xs : List (String × DataW Unit)) (hf : (l.filter fun x => x.2.handleName?.isSome) = x :: xs) : laidMet P (l.filter fun x => x.2.handleName?.isNone) w := by
  unfold laidMetH at h
  rw [hf] at h
  exact h.1

set_option maxRecDepth 100000 in
theorem away_of {W : World} (hL : laidMetH Tryz.prog Rows.moneyWordsRow.laid W) : AwayEnv W := by
  obtain ⟨g, t, cs, fuel, p, hg, ht, hv, hd⟩ := hL.funcs (n := "novation/rational.away") (List.mem_of_getElem? (i := 6) rfl)
  obtain rfl := Option.some.inj ((show Tryz.prog.globalNamed "novation/rational.away" = some 0 by kernel_rfl).symm.trans hg)
  obtain rfl := Option.some.inj ((show (Tryz.prog.globals[0]?).map (·.type) = some 111 by kernel_rfl).symm.trans ht)
  have hd' : DataW.trod (funcToken Tryz.prog) Tryz.prog W 0 (fun _ => true) true fuel 111 cs.toList = some (.agg [.held [110, 111, 118, 97, 116, 105, 111, 110, 47, 114, 97, 116, 105, 111, 110, 97, 108, 46, 97, 119, 97, 121, 36, 49], .held [110, 111, 118, 97, 116, 105, 111, 110, 47, 114, 97, 116, 105, 111, 110, 97, 108, 46, 97, 119, 97, 121, 36, 50], .held [110, 111, 118, 97, 116, 105, 111, 110, 47, 114, 97, 116, 105, 111, 110, 97, 108, 46, 97, 119, 97, 121, 36, 51], .held [110, 111, 118, 97, 116, 105, 111, 110, 47, 114, 97, 116, 105, 111, 110, 97, 108, 46, 97, 119, 97, 121, 36, 52], .held [110, 111, 118, 97, 116, 105, 111, 110, 47, 114, 97, 116, 105, 111, 110, 97, 108, 46, 97, 119, 97, 121, 36, 53]], p) := hd
  obtain ⟨hlen, hel⟩ := open_farr Tryz.underlying111 (by kernel_rfl) (by kernel_rfl) hd'
  intro k f hf
  have hk : k < 5 := by
    have := (List.getElem?_eq_some_iff.1 hf).1
    simpa [awayF] using this
  have key : ∀ i v, cs.toList[i]? = some v → W.cell? ⟨0, i, none⟩ = some v := fun i v h => by
    rw [World.var?_cell hg hv i, ← Array.getElem?_toList]
    exact h
  have hcase : k = 0 ∨ k = 1 ∨ k = 2 ∨ k = 3 ∨ k = 4 := by omega
  rcases hcase with rfl | rfl | rfl | rfl | rfl
  · obtain ⟨v, m, q, hc, hr⟩ := hel 0 _ rfl
    obtain rfl := func_of_trod (f0 := 160) Tryz.underlying110 (by kernel_rfl) hr
    obtain rfl : f = 160 := (Option.some.inj hf).symm
    exact key 0 _ hc
  · obtain ⟨v, m, q, hc, hr⟩ := hel 1 _ rfl
    obtain rfl := func_of_trod (f0 := 161) Tryz.underlying110 (by kernel_rfl) hr
    obtain rfl : f = 161 := (Option.some.inj hf).symm
    exact key 1 _ hc
  · obtain ⟨v, m, q, hc, hr⟩ := hel 2 _ rfl
    obtain rfl := func_of_trod (f0 := 162) Tryz.underlying110 (by kernel_rfl) hr
    obtain rfl : f = 162 := (Option.some.inj hf).symm
    exact key 2 _ hc
  · obtain ⟨v, m, q, hc, hr⟩ := hel 3 _ rfl
    obtain rfl := func_of_trod (f0 := 163) Tryz.underlying110 (by kernel_rfl) hr
    obtain rfl : f = 163 := (Option.some.inj hf).symm
    exact key 3 _ hc
  · obtain ⟨v, m, q, hc, hr⟩ := hel 4 _ rfl
    obtain rfl := func_of_trod (f0 := 164) Tryz.underlying110 (by kernel_rfl) hr
    obtain rfl : f = 164 := (Option.some.inj hf).symm
    exact key 4 _ hc

set_option maxRecDepth 100000 in
theorem env_ofz {W : World} (hL : laidMetH Tryz.prog Rows.moneyWordsRow.laid W) : Env W := by
  have h0 : laidMet Tryz.prog [("math/bits.deBruijn32tab", Rows.laid_math_bits_deBruijn32tab), ("math/bits.deBruijn64tab", Rows.laid_math_bits_deBruijn64tab), ("internal/strconv.uint64pow10", Rows.laid_internal_strconv_uint64pow10), ("unicode/utf8.acceptRanges", Rows.laid_unicode_utf8_acceptRanges), ("strconv.ErrRange", Rows.laid_strconv_ErrRange), ("strconv.ErrSyntax", Rows.laid_strconv_ErrSyntax), ("unicode/utf8.first", Rows.laid_unicode_utf8_first)] W := laidMetH_data hL _ _ rfl
  have h1 := h0.tail
  have h2 := h1.tail
  have h3 := h2.tail
  have h4 := h3.tail
  refine ⟨?_, ?_⟩
  · exact Lib.tabIs_of_head (g := 4) (t := 172) (by kernel_rfl) (by kernel_rfl) (n := 20) (e := 112) (by kernel_rfl) (by kernel_rfl) (by kernel_rfl) (by kernel_rfl) h2
  · exact sent_of_head (g := 3) (t := 59) (by kernel_rfl) (by kernel_rfl) Tryz.underlying59 h4

end Go.Proofs.YtnikhbdjlipcbaaGreatDoor
