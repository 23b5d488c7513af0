/-
  novationlaw07.MoneyUnits returns true at every number, amount, currency and mode. Condition: what the package-level variables hold. From MoneyUnits' conditions to what the table of functions holds. No condition.
-/
import Derived.Test.YtnikhbdjlipcbaaDoorWo
import Derived.LaidMore
import Derived.LaidHandle
import Derived.Test.YtnikhbdjlipcbaaDoorRows
import Derived.Handed
import Derived.LaidLaws
import Derived.Stop.LaidErr
namespace Go.Proofs.YtnikhbdjlipcbaaDoor
open Go.RowKit Go.Shelf

/-- A function's call hands this back wherever the world has grown to. -/
def CtU (w : World) (f : FuncId) (args : Array Value) (v : Value) : Prop := ∀ W : World, Below w.heap.size w W → Calls Tryd.prog f args W fun e W' => e = .returned v ∧ Below W.heap.size W W'
theorem CtU.use {w : World} {f : FuncId} {args : Array Value} {v : Value} (h : CtU w f args v) {W : World} (hW : Below w.heap.size w W) : Calls Tryd.prog f args W fun e W' => e = .returned v ∧ Below W.heap.size W W' := h W hW
def BelU (w : World) (b : Bool) (e : Ending) (w' : World) : Prop := e = .returned (.bool b) ∧ Below w.heap.size w w'
set_option maxHeartbeats 1000000 in
set_option maxRecDepth 100000 in
theorem munits_long (r c : ByteArray) (n : Int) (k : Nat) (w : World) (h : 4000 < r.size) : Calls Tryd.prog 3 #[.string r, .int .i64 n, .string c, .int .u8 (k : Int)] w (BelU w true) := by
  have g1 : decide ((4000 : Int) < (r.size : Int)) = true := by simp; omega
  clear h
  go_enter Tryd.func3, Tryd.ntmps3
  go_wp2_with fail
  go_ret
  exact ⟨rfl, Below.refl _ _⟩
set_option maxHeartbeats 2000000 in
set_option maxRecDepth 100000 in
theorem munits_go (r c x : ByteArray) (n u f v g i : Int) (k : Nat) (w : World) (hr : r.size ≤ 4000)
    (H1 : Hid (Un c u f)) (H2 : Hid (RUn c u f)) (H3 : Hid (CtU w 7 #[.string r, .string c, .int .u8 (k : Int)] (.tuple #[.int .i64 v, .int .i64 g])))
    (H4 : Hid (∀ W, Calls Tryd.prog 8 #[.string r, .string c, .int .u8 (k : Int)] W (IiE W v g)))
    (H5 : Hid (∀ W, Calls Tryd.prog 9 #[.int .i64 n, .string c] W (StE W x i))) (H6 : Hid (∀ W, Calls Tryd.prog 10 #[.int .i64 n, .string c] W (StE W x i))) :
    Calls Tryd.prog 3 #[.string r, .int .i64 n, .string c, .int .u8 (k : Int)] w (BelU w true) := by
  have g1 : decide ((4000 : Int) < (r.size : Int)) = false := by simp; omega
  go_enter Tryd.func3, Tryd.ntmps3
  go_wp2_with fail
  refine (H1.out _).mono ?_
  rintro e w1 ⟨rfl, b1⟩
  have B1 := Lib.hid b1
  clear b1
  go_wp2_with fail
  refine (H2.out _).mono ?_
  rintro e w2 ⟨rfl, b2⟩
  have B2 := Lib.hid (B1.out.trans (b2.mono B1.out.size))
  clear b2
  go_wp2_with fail
  refine (H3.out.use B2.out).mono ?_
  rintro e w3 ⟨rfl, b3⟩
  have B3 := Lib.hid (B2.out.trans (b3.mono B2.out.size))
  clear b3
  go_wp2_with fail
  refine (H4.out _).mono ?_
  rintro e w4 ⟨rfl, b4⟩
  have B4 := Lib.hid (B3.out.trans (b4.mono B3.out.size))
  clear b4
  go_wp2_with fail
  refine (H5.out _).mono ?_
  rintro e w5 ⟨rfl, b5⟩
  have B5 := Lib.hid (B4.out.trans (b5.mono B4.out.size))
  clear b5
  go_wp2_with fail
  refine (H6.out _).mono ?_
  rintro e w6 ⟨rfl, b6⟩
  have B6 := Lib.hid (B5.out.trans (b6.mono B5.out.size))
  clear b6
  go_wp2_with fail
  go_ret
  exact ⟨rfl, B6.out⟩

theorem munits_any (r c : ByteArray) (n : Int) (k : Nat) (w : World) (hA : AwayEnv w) : Calls Tryd.prog 3 #[.string r, .int .i64 n, .string c, .int .u8 (k : Int)] w (BelU w true) := by
  rcases Nat.lt_or_ge 4000 r.size with hl | hl
  · exact munits_long r c n k w hl
  obtain ⟨x, i, H5, H6⟩ : ∃ (x : ByteArray) (i : Int), Hid (∀ W, Calls Tryd.prog 9 #[.int .i64 n, .string c] W (StE W x i)) ∧ Hid (∀ W, Calls Tryd.prog 10 #[.int .i64 n, .string c] W (StE W x i)) := by
    by_cases hb : unitOf c.data.toList = none ∨ amtOK n = false
    · refine ⟨⟨#[]⟩, 2, fun W => (fru_any n c W).mono fun e w' hp => ?_, fun W => (rfru_any n c W).mono fun e w' hp => ?_⟩
      all_goals
        rcases hp with ⟨_, hp⟩ | ⟨u, h1, h2, _⟩
        · exact hp
        · rcases hb with hb | hb
          · rw [hb] at h1; cases h1
          · rw [hb] at h2; cases h2
    · obtain ⟨u, hu⟩ : ∃ u, unitOf c.data.toList = some u := by
        cases hq : unitOf c.data.toList with
        | none => exact absurd (.inl hq) hb
        | some u => exact ⟨u, rfl⟩
      refine ⟨⟨(ratT (ratN n (10 ^ u : Nat)) (ratD n (10 ^ u : Nat))).toArray⟩, 0, fun W => (fru_any n c W).mono fun e w' hp => ?_, fun W => (rfru_any n c W).mono fun e w' hp => ?_⟩
      all_goals
        rcases hp with ⟨h1, _⟩ | ⟨u', h1, h2, hp⟩
        · exact absurd h1 hb
        · rw [hu] at h1; injection h1 with h1; subst h1; exact hp
  cases hu : unitOf c.data.toList with
  | none =>
    exact munits_go r c x n 0 2 0 2 i k w hl (un_none hu) (run_none hu) (Lib.hid fun W _ => tou_unit r c k (un_none hu) W) (Lib.hid fun W => rtou_unit r c k (run_none hu) W) H5 H6
  | some u =>
    rcases Nat.lt_or_ge 4 k with hk | hk
    · have t1 : decide ((4 : Int) < (k : Int)) = true := by simp; omega
      exact munits_go r c x n u 0 0 2 i k w hl (un_some hu) (run_some hu) (Lib.hid fun W _ => tou_mode r c k u (un_some hu) t1 W) (Lib.hid fun W => rtou_mode r c k u (run_some hu) t1 W) H5 H6
    · have t1 := chk_pos (show k < 5 by omega)
      by_cases hc : chkR r.data.toList = 0
      · obtain ⟨N, D, e, hok⟩ := chkR_zero hc
        exact munits_go r c x n u 0 _ _ i k w hl (un_some hu) (run_some hu) (Lib.hid fun W hW => tou_ok r c N D u k W (hA.below hW) (by omega) hu (by omega) e hok) (Lib.hid fun W => rtou_ok r c N D u k W (by omega) hu (by omega) e hok) H5 H6
      · have t2 : (chkR r.data.toList != 0) = true := by simpa using hc
        exact munits_go r c x n u 0 0 12 i k w hl (un_some hu) (run_some hu) (Lib.hid fun W _ => tou_form r c k u (un_some hu) t1 _ (Lib.hid fun W => qrat_any r W (by omega)) t2 W) (Lib.hid fun W => rtou_form r c k u (run_some hu) t1 _ (Lib.hid fun W => rrat_any r W (by omega)) t2 W) H5 H6

end Go.Proofs.YtnikhbdjlipcbaaDoor

namespace Go
variable {H : Type} {enc : TypeId × Value → H}
/-- 'returnsInHanded_of_change_and', the world's shape kept. -/
theorem handed_shaped_and {a : Assume} {C : Checked} {os : Os} {f : FuncId} {fn : Func} {s : ChangeSpec} {conds : List PathCond} {apart fresh handsOn again : Bool} {X : World → Array Value → Prop}
    (hX : ∀ (w w' : World) (args : Array Value), w.heap = w'.heap → X w args → X w' args)
    (own : ownKnob C.prog.godebug = none) (started : os.Started) (noInit : C.prog.inits.idxOf? f = none) (hfn : C.prog.funcs[f]? = some fn)
    (witness : ∃ (w : World) (tape : Tape) (i : Input), w.os = os ∧ (w.forCall tape i).Shaped C.prog ∧ i.vars = [] ∧ Input.okWide C.prog (w.forCall tape i) .any w.heap.size f i ∧
      ((s.pre enc C.prog fn conds apart (w.forCall tape i).memory i.args ∧ X (w.forCall tape i).memory i.args) ∧ sizedMet enc C.prog fn (OpenSpec.ofChange s) apart (w.forCall tape i).memory i.args) ∧ a.holds C.prog (lone (Frame.enter C.prog f i.args .normal) [] (w.forCall tape i)))
    (contract : ∀ (W : World) (base : Nat) (args : Array Value) (ds gs : List (DataW H)) (before : List MemPlace),
      (∀ (j : Nat) t v, fn.params[j]? = some t → args[j]? = some v → Value.okWide C.prog W .any base t v) →
      DataW.Whole enc C.prog fn.params.toList s.vars apart W args.toList ds gs before →
      conds.all (PathCond.test C.prog ⟨fn.params.toList, ds, s.plain.varTypes C.prog, gs⟩) = true →
      (DataW.weightsEach C.prog (fn.params.toList ++ s.plain.varTypes C.prog) (ds ++ gs)).all (· ≤ reachBytes) = true → X W args →
      W.ShapedOpen C.prog →
      a.holds C.prog (lone (Frame.enter C.prog f args .normal) [] W) →
      Calls C.prog f args W fun e W' => ∃ v, e = .returned v ∧ s.post enc C.prog fn apart fresh handsOn again W args v W') :
    ReturnsInHanded a C os f .any (fun w args => (s.pre enc C.prog fn conds apart w args ∧ X w args) ∧ sizedMet enc C.prog fn (OpenSpec.ofChange s) apart w args) (s.post enc C.prog fn apart fresh handsOn again) := by
  refine returnsInHanded_of_calls own started noInit witness ?_
  intro w tape i _ hsh _ hok hpre hholds
  obtain ⟨_, _, _, fn', hfn', _, _, _, _, hval⟩ := hok
  have e : fn' = fn := Option.some.inj (hfn'.symm.trans hfn)
  subst e
  obtain ⟨⟨⟨ds, gs, before, hw, hc⟩, hx⟩, hz⟩ := hpre
  have hw' := DataW.Whole.of_heap (w' := w.forCall tape i) (by rfl) hw
  refine (contract (w.forCall tape i) w.heap.size i.args ds gs before hval hw' hc (hz.weights hw) (hX _ _ _ (by rfl) hx) hsh hholds).mono fun e W' ⟨v, he, hp⟩ => ?_
  subst he
  exact ChangeSpec.post_blind hp
end Go
namespace Go.Proofs.YtnikhbdjlipcbaaDoor
open Go.RowKit

/-- A table of functions that is an array. -/
theorem open_farr {P : Program} {W : World} {H : Type} {enc : TypeId × Value → H} {base : Nat} {sp : Nat → Bool} {held : Bool} {t e n : Nat} {fuel : Nat} {cs : List Value} {ds : List (DataW H)} {p : List MemPlace}
    (ht : P.underlying t = some (.array n e)) (hc : P.cellsOf e = 1) (hn : P.cellsOf t = n)
    (h : DataW.trod enc P W base sp held fuel t cs = some (.agg ds, p)) :
    cs.length = n ∧ ∀ (i : Nat) (d : DataW H), ds[i]? = some d → ∃ v m q, cs[i]? = some v ∧ DataW.trod enc P W base sp held m e [v] = some (d, q) := by
  cases fuel with
  | zero => simp [DataW.trod] at h
  | succ m =>
    unfold DataW.trod at h
    rw [ht] at h
    simp only at h
    by_cases hl : cs.length = P.cellsOf t
    · rw [if_pos hl] at h
      cases hm : (List.range n).mapM fun i => DataW.trod enc P W base sp held m e ((cs.drop (i * P.cellsOf e)).take (P.cellsOf e)) with
      | none => rw [hm] at h; simp at h
      | some xs =>
        rw [hm] at h
        simp only [Option.map_some, Option.some.injEq, Prod.mk.injEq, DataW.agg.injEq] at h
        obtain ⟨hx, _⟩ := h
        have hlen : xs.length = n := by simpa using mapM_some_length hm
        refine ⟨hl.trans hn, fun i d hd => ?_⟩
        rw [← hx, List.getElem?_map] at hd
        cases hy : xs[i]? with
        | none => rw [hy] at hd; simp at hd
        | some y =>
          rw [hy] at hd
          simp only [Option.map_some, Option.some.injEq] at hd
          have hi : i < n := by rw [← hlen]; exact (List.getElem?_eq_some_iff.1 hy).1
          have hg := mapM_some_get hm i i (by simp [hi])
          rw [hc, Nat.mul_one] at hg
          have hcs : i < cs.length := by rw [hl, hn]; exact hi
          have hone : (cs.drop i).take 1 = [cs[i]] := by
            rw [List.drop_eq_getElem_cons hcs]; rfl
          rw [hone] at hg
          refine ⟨cs[i], m, y.2, List.getElem?_eq_getElem hcs, ?_⟩
          rw [hg, hy, ← hd]
    · rw [if_neg hl] at h; simp at h

set_option maxRecDepth 100000 in
theorem away_of {W : World} (hL : laidMetH Tryd.prog Rows.moneyUnitsRow.laid W) : AwayEnv W := by
  obtain ⟨g, t, cs, fuel, p, hg, ht, hv, hd⟩ := hL.funcs (n := "novation/rational.away") (List.mem_of_getElem? (i := 0) rfl)
  obtain rfl := Option.some.inj ((show Tryd.prog.globalNamed "novation/rational.away" = some 0 by kernel_rfl).symm.trans hg)
  obtain rfl := Option.some.inj ((show (Tryd.prog.globals[0]?).map (·.type) = some 95 by kernel_rfl).symm.trans ht)
  have hd' : DataW.trod (funcToken Tryd.prog) Tryd.prog W 0 (fun _ => true) true fuel 95 cs.toList = some (.agg [.held [110, 111, 118, 97, 116, 105, 111, 110, 47, 114, 97, 116, 105, 111, 110, 97, 108, 46, 97, 119, 97, 121, 36, 49], .held [110, 111, 118, 97, 116, 105, 111, 110, 47, 114, 97, 116, 105, 111, 110, 97, 108, 46, 97, 119, 97, 121, 36, 50], .held [110, 111, 118, 97, 116, 105, 111, 110, 47, 114, 97, 116, 105, 111, 110, 97, 108, 46, 97, 119, 97, 121, 36, 51], .held [110, 111, 118, 97, 116, 105, 111, 110, 47, 114, 97, 116, 105, 111, 110, 97, 108, 46, 97, 119, 97, 121, 36, 52], .held [110, 111, 118, 97, 116, 105, 111, 110, 47, 114, 97, 116, 105, 111, 110, 97, 108, 46, 97, 119, 97, 121, 36, 53]], p) := hd
  obtain ⟨hlen, hel⟩ := open_farr Tryd.underlying95 (by kernel_rfl) (by kernel_rfl) hd'
  intro k f hf
  have hk : k < 5 := by
    have := (List.getElem?_eq_some_iff.1 hf).1
    simpa [awayF] using this
  have key : ∀ i v, cs.toList[i]? = some v → W.cell? ⟨0, i, none⟩ = some v := fun i v h => by
    rw [World.var?_cell hg hv i, ← Array.getElem?_toList]
    exact h
  have hcase : k = 0 ∨ k = 1 ∨ k = 2 ∨ k = 3 ∨ k = 4 := by omega
  rcases hcase with rfl | rfl | rfl | rfl | rfl
  · obtain ⟨v, m, q, hc, hr⟩ := hel 0 _ rfl
    obtain rfl := func_of_trod (f0 := 179) Tryd.underlying94 (by kernel_rfl) hr
    obtain rfl : f = 179 := (Option.some.inj hf).symm
    exact key 0 _ hc
  · obtain ⟨v, m, q, hc, hr⟩ := hel 1 _ rfl
    obtain rfl := func_of_trod (f0 := 180) Tryd.underlying94 (by kernel_rfl) hr
    obtain rfl : f = 180 := (Option.some.inj hf).symm
    exact key 1 _ hc
  · obtain ⟨v, m, q, hc, hr⟩ := hel 2 _ rfl
    obtain rfl := func_of_trod (f0 := 181) Tryd.underlying94 (by kernel_rfl) hr
    obtain rfl : f = 181 := (Option.some.inj hf).symm
    exact key 2 _ hc
  · obtain ⟨v, m, q, hc, hr⟩ := hel 3 _ rfl
    obtain rfl := func_of_trod (f0 := 182) Tryd.underlying94 (by kernel_rfl) hr
    obtain rfl : f = 182 := (Option.some.inj hf).symm
    exact key 3 _ hc
  · obtain ⟨v, m, q, hc, hr⟩ := hel 4 _ rfl
    obtain rfl := func_of_trod (f0 := 183) Tryd.underlying94 (by kernel_rfl) hr
    obtain rfl : f = 183 := (Option.some.inj hf).symm
    exact key 4 _ hc


theorem munits_card (r : ByteArray) (n : Int) (c : ByteArray) (k : Nat) (w : World) (hA : AwayEnv w) : Calls Tryd.prog 3 #[.string r, .int .i64 n, .string c, .int .u8 (k : Int)] w (BelU w true) := munits_any r c n k w hA

end Go.Proofs.YtnikhbdjlipcbaaDoor
