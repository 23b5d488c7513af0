/-
  (*out).line walked; the map of two words. No condition but lengths. (*out).contract$1 (the days) walked. No condition but lengths. (*out).braces walked, from the contract of contract. No condition but lengths. (*out).contract: what stands while it writes; four strings at once; the parts. No condition but lengths. (*out).contract walked: kind 1, 2, 3. No condition but lengths. (*out).contract walked: kind 4. No condition but lengths. (*out).contract walked: kind 5. No condition but lengths. (*out).contract walked: kind 6. No condition but lengths. (*out).contract walked: kind 7. No condition but lengths.
-/
import Derived.Test.YtijkefflpojmhaaDoorZae
import Derived.Test.YtijkefflpojmhaaDoorZag
import Derived.Test.YtijkefflpojmhaaDoorZaf
import Derived.RangeFuncOwn
namespace Go.Proofs.YtijkefflpojmhaaDoor
open Go.RowKit

theorem rep_sp (d : Nat) : Lib.repeatL [32, 32] d = List.replicate (2 * d) 32 := by
  induction d with
  | zero => rfl
  | succ d ih =>
    rw [Lib.repeatL, ih, show 2 * (d + 1) = 2 + 2 * d by omega, ← List.replicate_append_replicate]; rfl
set_option maxHeartbeats 1000000 in
set_option maxRecDepth 100000 in
theorem line_any (B b : Nat) (m : Value) (l : List UInt8) (d : Nat) (w : World) (h : IsOut B b m l w) (hd : d ≤ 3000) (hlen : l.length ≤ 2000000000) (hBw : B ≤ w.heap.size) :
    Calls Tryd.prog 55 #[.pointer (some ⟨b, 0, none⟩), .int .i64 (d : Int)] w (WrP B b m (l ++ ([10] ++ List.replicate (2 * d) 32)) w) := by
  obtain ⟨s, hs⟩ : ∃ s : ByteArray, s = ⟨(List.replicate (2 * d) 32).toArray⟩ := ⟨_, rfl⟩
  have hsl : s.data.toList = List.replicate (2 * d) 32 := by rw [hs]
  have hsz : s.size = 2 * d := by have : s.data.toList.length = s.size := by simp
                                  rw [← this, hsl, List.length_replicate]
  have HR : Hid (∀ W, Calls Tryd.prog 62 #[.string (ByteArray.mk #[32, 32]), .int .i64 (d : Int)] W fun e w' => e = .returned (.string s) ∧ Below W.heap.size W w') := fun W => by
    have := Tryd.strings_Repeat (ByteArray.mk #[32, 32]) d W (by omega) (by show 2 * d ≤ _; omega)
    rw [show (ByteArray.mk #[32, 32]).data.toList = [32, 32] from rfl, rep_sp, ← hs] at this
    exact this
  rw [← hsl]
  have HO := Lib.hid h
  have hbw := h.at.elim fun p hp => hp.lt
  clear hs hsl h
  go_enter Tryd.func55, Tryd.ntmps55
  go_wp2_with fail
  refine (HR.out _).mono ?_
  rintro e w1 ⟨rfl, hb⟩
  have HP := Lib.hid (put2 B b m l (ByteArray.mk #[10]) s w1 (HO.out.below hb) (by show l.length + (1 + s.size) ≤ _; omega) (Nat.le_trans hBw hb.size))
  have HK := Lib.hid (OutK.below (b := b) hb hBw)
  clear hb
  go_wp2_with fail
  refine HP.out.mono ?_
  rintro e w2 ⟨rfl, hio, hok⟩
  have HF : Hid (WrP B b m (l ++ ([10] ++ s.data.toList)) w (.returned (.tuple #[])) w2) := ⟨rfl, hio, HK.out.trans hok⟩
  clear hio hok
  go_wp2_with fail
  go_end0
  exact HF.out

end Go.Proofs.YtijkefflpojmhaaDoor

namespace Go.Proofs.YtijkefflpojmhaaDoor
open Go.RowKit

theorem run_updB (w : World) (es : Array MapEntry) (c : Nat) (k : Bool) (val : Value) (hf : Instr.findNow .bool (.bool k) es.toList 0 = some none) :
    (Instr.mapUpdate 66 (.map (some w.heap.size)) (.bool k) val).run Tryd.prog (w.alloc (.map es c)) = .ok () (w.alloc (.map (es.push ⟨.bool k, val, c⟩) (c + 1))) := by
  have hb : (w.alloc (.map es c)).heap[w.heap.size]? = some (.map es c) := alloc_at _ _
  have hc : (Instr.checkKey false 10000 4 (.bool k)).run Tryd.prog (w.alloc (.map es c)) = .ok () (w.alloc (.map es c)) := MapKept.run_checkKey Tryd.underlying4 (by simp [MapKept.IsKey]) false 9999
  have e : (w.heap.push (Obj.map es c)).setIfInBounds w.heap.size (Obj.map (es.push ⟨.bool k, val, c⟩) (c + 1)) = w.heap.push (Obj.map (es.push ⟨.bool k, val, c⟩) (c + 1)) := by
    apply Array.ext'
    simp [Array.toList_setIfInBounds]
  have hs : (setObj w.heap.size (.map (es.push ⟨.bool k, val, c⟩) (c + 1))).run Tryd.prog (w.alloc (.map es c)) = .ok () (w.alloc (.map (es.push ⟨.bool k, val, c⟩) (c + 1))) := by
    rw [MapKept.run_setObj_map _ hb]
    show Result.ok () { (w.alloc (.map es c)) with heap := (w.heap.push (Obj.map es c)).setIfInBounds w.heap.size _ } = _
    rw [e]; rfl
  simp [Instr.mapUpdate, run_underlying Tryd.underlying66, MapKept.run_getObj_map hb, hc, MapKept.run_findKey Tryd.underlying4 hf, hs, Result.andThen]
theorem run_lookB {W : World} {bm : Nat} {es : Array MapEntry} {c : Nat} (hb : W.heap[bm]? = some (.map es c)) {k : Bool} {v : Value} {i : Nat} (hf : Instr.findNow .bool (.bool k) es.toList 0 = some (some (i, v))) :
    (Instr.lookup 66 (.map (some bm)) (.bool k) false).run Tryd.prog W = .ok v W := by
  have hc : ∀ q, (Instr.checkKey q 10000 4 (.bool k)).run Tryd.prog W = .ok () W := fun q => MapKept.run_checkKey Tryd.underlying4 (by simp [MapKept.IsKey]) q 9999
  simp [Instr.lookup, run_underlying Tryd.underlying66, MapKept.run_getObj_map hb, hc, MapKept.run_findKey Tryd.underlying4 hf, Result.andThen]
theorem run_updBp {W : World} {bm : Nat} {es : Array MapEntry} {c : Nat} (hb : W.heap[bm]? = some (.map es c)) (k : Bool) (val : Value) (hf : Instr.findNow .bool (.bool k) es.toList 0 = some none) :
    (Instr.mapUpdate 66 (.map (some bm)) (.bool k) val).run Tryd.prog W = .ok () (W.putObj bm (.map (es.push ⟨.bool k, val, c⟩) (c + 1))) := by
  have hc : (Instr.checkKey false 10000 4 (.bool k)).run Tryd.prog W = .ok () W := MapKept.run_checkKey Tryd.underlying4 (by simp [MapKept.IsKey]) false 9999
  have hs : (setObj bm (.map (es.push ⟨.bool k, val, c⟩) (c + 1))).run Tryd.prog W = .ok () (W.putObj bm (.map (es.push ⟨.bool k, val, c⟩) (c + 1))) := by
    rw [MapKept.run_setObj_map _ hb]; rfl
  simp [Instr.mapUpdate, run_underlying Tryd.underlying66, MapKept.run_getObj_map hb, hc, MapKept.run_findKey Tryd.underlying4 hf, hs, Result.andThen]
/-- A map of two strings, as it grows; the two orders. -/
def m0M : Obj := .map #[] 0
def mtM (s : ByteArray) : Obj := .map #[⟨.bool true, .string s, 0⟩] 1
def mfM (t : ByteArray) : Obj := .map #[⟨.bool false, .string t, 0⟩] 1
def twoM (s t : ByteArray) : Obj := .map #[⟨.bool true, .string s, 0⟩, ⟨.bool false, .string t, 1⟩] 2
def owtM (s t : ByteArray) : Obj := .map #[⟨.bool false, .string t, 0⟩, ⟨.bool true, .string s, 1⟩] 2
abbrev InsR (W : World) (bm : Nat) (k : Bool) (s : ByteArray) (W' : World) : Prop := (Instr.mapUpdate 66 (.map (some bm)) (.bool k) (.string s)).run Tryd.prog W = .ok () W'
abbrev LokR (W : World) (bm : Nat) (q : Bool) (p : ByteArray) : Prop := (Instr.lookup 66 (.map (some bm)) (.bool q) false).run Tryd.prog W = .ok (.string p) W
theorem ins_at (W : World) (s : ByteArray) : InsR (W.alloc (.map #[] 0)) W.heap.size true s (W.alloc (mtM s)) := run_updB W #[] 0 true _ rfl
theorem ins_af (W : World) (t : ByteArray) : InsR (W.alloc (.map #[] 0)) W.heap.size false t (W.alloc (mfM t)) := run_updB W #[] 0 false _ rfl
theorem ins_atf (W : World) (s t : ByteArray) : InsR (W.alloc (mtM s)) W.heap.size false t (W.alloc (twoM s t)) := run_updB W #[⟨.bool true, .string s, 0⟩] 1 false _ rfl
theorem ins_aft (W : World) (s t : ByteArray) : InsR (W.alloc (mfM t)) W.heap.size true s (W.alloc (owtM s t)) := run_updB W #[⟨.bool false, .string t, 0⟩] 1 true _ rfl
theorem ins_pt {W : World} {bm : Nat} (h : W.heap[bm]? = some (.map #[] 0)) (s : ByteArray) : InsR W bm true s (W.putObj bm (mtM s)) := run_updBp h true _ rfl
theorem ins_pf {W : World} {bm : Nat} (h : W.heap[bm]? = some (.map #[] 0)) (t : ByteArray) : InsR W bm false t (W.putObj bm (mfM t)) := run_updBp h false _ rfl
theorem ins_ptf {W : World} {bm : Nat} {s : ByteArray} (h : W.heap[bm]? = some (mtM s)) (t : ByteArray) : InsR W bm false t (W.putObj bm (twoM s t)) := run_updBp h false _ rfl
theorem ins_pft {W : World} {bm : Nat} {t : ByteArray} (h : W.heap[bm]? = some (mfM t)) (s : ByteArray) : InsR W bm true s (W.putObj bm (owtM s t)) := run_updBp h true _ rfl
theorem lok_two {W : World} {bm : Nat} {s t : ByteArray} (hb : W.heap[bm]? = some (twoM s t)) (q : Bool) : LokR W bm q (if q = true then s else t) := by
  cases q
  · exact run_lookB hb (i := 1) rfl
  · exact run_lookB hb (i := 0) rfl
theorem lok_owt {W : World} {bm : Nat} {s t : ByteArray} (hb : W.heap[bm]? = some (owtM s t)) (q : Bool) : LokR W bm q (if q = true then s else t) := by
  cases q
  · exact run_lookB hb (i := 0) rfl
  · exact run_lookB hb (i := 1) rfl
theorem below_put {B : Nat} {w W : World} {bm : Nat} (h : Below B w W) (hB : B ≤ bm) (o : Obj) : Below B w (W.putObj bm o) :=
  ⟨h.os, h.tape, h.output, by rw [World.putObj_size]; exact h.size, fun i hi => (World.putObj_heap_other (by omega)).trans (h.block i hi)⟩
theorem below_al {B : Nat} {w W : World} (h : Below B w W) (hB : B ≤ w.heap.size) (o : Obj) : Below B w (W.alloc o) := h.alloc (Nat.le_trans hB h.size) o
theorem put_at {W : World} {bm : Nat} {o : Obj} (h : W.heap[bm]? = some o) (o' : Obj) : (W.putObj bm o').heap[bm]? = some o' := World.putObj_heap_same (Array.getElem?_eq_some_iff.1 h).1
/-- The days so far. -/
noncomputable def onN (l : List Int) (k : Nat) : List UInt8 := onT (l.take k)
theorem onN_succ (l : List Int) (k : Nat) (h : k < l.length) : onN l (k + 1) = onN l k ++ ((if decide (k = 0) = true then [32, 111, 110, 32] else [44, 32]) ++ dtxt l[k]) := by
  unfold onN onT daysT
  rw [if_neg (by intro e; have := congrArg List.length e; rw [List.length_take, List.length_nil] at this; omega), List.take_succ_eq_append_getElem h, List.map_append, List.map_singleton, commas_snoc]
  cases k with
  | zero => simp
  | succ k =>
    have hne : l.take (k + 1) ≠ [] := by intro e; have := congrArg List.length e; rw [List.length_take, List.length_nil] at this; omega
    rw [if_neg (by simpa using hne), if_neg hne]
    simp
theorem onN_len (l : List Int) (k : Nat) (hk : k ≤ l.length) : (onN l k).length ≤ 14 * k := by
  induction k with
  | zero => simp [onN, onT]
  | succ k ih =>
    have := ih (by omega)
    rw [onN_succ l k (by omega), List.length_append, List.length_append, dtxt_len]
    split <;> simp <;> omega
set_option maxHeartbeats 2000000 in
set_option maxRecDepth 100000 in
theorem dates_any {Wb : World} {B b bc bo : Nat} {m : Value} (x : Ct) (ea : Option Addr) (el ec : Nat) (da : Option Addr) (dl dc : Nat) (a : Option Addr) (len cap : Nat) (l : List UInt8) (w : World) (he : OutEnv Wb B b m l w) (hds : DaysAt Wb da dl x.dates) (hok : ∀ d ∈ x.dates, 0 ≤ d ∧ d ≤ 99999) (hdl : x.dates.length ≤ 200) (hl : l.length ≤ 1000000000)
    (hbc : w.heap[bc]? = some (.cells #[.int .u8 x.kind, .string x.frm, .string x.too, .string x.name, .int .u8 x.expr.kind, .string x.expr.rat, .string x.expr.name, .int .i64 x.expr.date, .slice ea el ec, .int .i64 x.date, .slice da dl dc, .slice a len cap] 29)) (hbo : w.heap[bo]? = some (.cells #[.pointer (some ⟨b, 0, none⟩)] 47)) (h1 : bc ≠ b) (h2 : bo ≠ b) :
    Calls Tryd.prog 31 #[.pointer (some ⟨bc, 0, none⟩), .pointer (some ⟨bo, 0, none⟩)] w (WrP B b m (l ++ onT x.dates) w) := by
  obtain ⟨hdlen, hdat⟩ := hds
  have HD := Lib.hid hdat
  have HLEN := Lib.hid hdlen
  have HOK := Lib.hid hok
  have HEN := Lib.hid he
  have HC : Hid (∀ W, OutK B b w W → W.heap[bc]? = some (.cells #[.int .u8 x.kind, .string x.frm, .string x.too, .string x.name, .int .u8 x.expr.kind, .string x.expr.rat, .string x.expr.name, .int .i64 x.expr.date, .slice ea el ec, .int .i64 x.date, .slice da dl dc, .slice a len cap] 29) ∧ W.heap[bo]? = some (.cells #[.pointer (some ⟨b, 0, none⟩)] 47)) := fun W hW => ⟨hW.2 bc _ hbc (by simpa using h1) (by intro c fz e; simp at e), hW.2 bo _ hbo (by simpa using h2) (by intro c fz e; simp at e)⟩
  obtain ⟨c0, c1, c2, c3, c4, c5, c6, c7, c8, c9, ca, cb⟩ := ctBox hbc
  have o0 := exCell hbo 0
  have hmm := @run_makeMap Tryd.prog
  have hdb : dl ≤ 200 := by omega
  clear hdat hdlen hok he hbc hbo
  go_enter Tryd.func31, Tryd.ntmps31
  go_wp2_with fail
  go_loopw [7] (fun iv wr => ∃ k : Nat, k ≤ dl ∧ iv = .int .i64 (k : Int) ∧ OutEnv Wb B b m (l ++ onN x.dates k) wr ∧ OutK B b w wr) (fun iv _ => dl - (intOf iv).toNat)
  case atStart => exact ⟨0, Nat.zero_le _, rfl, by simpa [onN, onT] using HEN.out, OutK.refl _ _ _⟩
  case round =>
    clear c0 c1 c2 c3 c4 c5 c6 c7 c8 c9 ca cb o0
    obtain ⟨w1, rfl⟩ : ∃ w1 : World, w1 = wr := ⟨_, rfl⟩
    obtain ⟨k, hk, rfl, hen, hok⟩ := hrel
    have HEN1 := Lib.hid hen
    have HOK1 := Lib.hid hok
    obtain ⟨hb1, hb2⟩ := HC.out w1 hok
    obtain ⟨c0, c1, c2, c3, c4, c5, c6, c7, c8, c9, ca, cb⟩ := ctBox hb1
    have o0 := exCell hb2 0
    by_cases hlt : k < dl
    · have hlt2 : k < x.dates.length := by rw [HLEN.out]; exact hlt
      rcases HD.out with h0 | ⟨g, o, ha, hg, hel⟩
      · omega
      · subst ha
        have ek := hel k hlt
        rw [List.getElem?_eq_getElem hlt2, Option.getD_some] at ek
        have ek1 : w1.cell? ⟨g, o + k, none⟩ = some (.int .i64 x.dates[k]) := ((bcell hen.old).1 _ _ hg).trans ek
        have hdr := HOK.out _ (List.getElem_mem hlt2)
        have HT := Lib.hid (onN_succ x.dates k hlt2)
        have hon := onN_len x.dates k (by omega)
        have hon2 := onN_len x.dates (k + 1) (by omega)
        rw [HT.out] at hon2
        obtain ⟨dd, hdd⟩ : ∃ d, d = x.dates[k] := ⟨_, rfl⟩
        rw [← hdd] at ek1 hdr HT hon2
        obtain ⟨s, hs⟩ : ∃ s, s = dS dd := ⟨_, rfl⟩
        have hss : s.data.toList = dtxt dd := by rw [hs]; rfl
        have HDY : Hid (∀ W, Calls Tryd.prog 33 #[.int .i64 dd] W (fun e w' => e = .returned (.string s) ∧ Below W.heap.size W w')) := fun W => by rw [hs]; exact pdayT_is hdr.1 hdr.2 W
        rw [← hss] at HT hon2
        have hE0 := hen
        have q0 : ((k : Int) == 0) = decide (k = 0) := by by_cases h : k = 0 <;> simp [h]
        have HE0 := Lib.hid hE0
        obtain ⟨p, hp⟩ : ∃ p : ByteArray, p = if decide (k = 0) = true then ByteArray.mk #[32, 111, 110, 32] else ByteArray.mk #[44, 32] := ⟨_, rfl⟩
        have hps : p.data.toList = if decide (k = 0) = true then [32, 111, 110, 32] else [44, 32] := by rw [hp]; split <;> rfl
        rw [← hps] at HT hon2
        have HPS : Hid (p.size ≤ 4) := by show p.size ≤ 4; rw [hp]; split <;> decide
        have hs10 : s.size = 10 := by have : s.data.toList.length = s.size := by simp
                                      rw [← this, hss, dtxt_len]
        obtain ⟨q, hq⟩ : ∃ q, q = decide (k = 0) := ⟨_, rfl⟩
        rw [← hq] at q0 hp
        have HPB : Hid ((l ++ onN x.dates k).length + (p.size + s.size) ≤ 140737488355328) := by
          have := HPS.out
          show _ ≤ _
          rw [List.length_append]; omega
        have SB : ∀ W, Below w1.heap.size w1 W → W.cell? ⟨bo, 0, none⟩ = some (.pointer (some ⟨b, 0, none⟩)) := fun W hW => exCell ((hW.block _ (Array.getElem?_eq_some_iff.1 hb2).1).trans hb2) 0
        have HSB := Lib.hid SB
        have HB2 := Lib.hid hb2
        have r1 := fun W => ins_at W (ByteArray.mk #[32, 111, 110, 32])
        have r2 := fun W => ins_af W (ByteArray.mk #[44, 32])
        have r3 := fun W => ins_atf W (ByteArray.mk #[32, 111, 110, 32]) (ByteArray.mk #[44, 32])
        have r4 := fun W => ins_aft W (ByteArray.mk #[32, 111, 110, 32]) (ByteArray.mk #[44, 32])
        have d1 : InsR (w1.alloc (.map #[] 0)).drew w1.heap.size true (ByteArray.mk #[32, 111, 110, 32]) (w1.alloc (mtM (ByteArray.mk #[32, 111, 110, 32]))).drew := r1 w1.drew
        have d2 : InsR (w1.alloc (.map #[] 0)).drew w1.heap.size false (ByteArray.mk #[44, 32]) (w1.alloc (mfM (ByteArray.mk #[44, 32]))).drew := r2 w1.drew
        have d3 : InsR (w1.alloc (mtM (ByteArray.mk #[32, 111, 110, 32]))).drew w1.heap.size false (ByteArray.mk #[44, 32]) (w1.alloc (twoM (ByteArray.mk #[32, 111, 110, 32]) (ByteArray.mk #[44, 32]))).drew := r3 w1.drew
        have d4 : InsR (w1.alloc (mfM (ByteArray.mk #[44, 32]))).drew w1.heap.size true (ByteArray.mk #[32, 111, 110, 32]) (w1.alloc (owtM (ByteArray.mk #[32, 111, 110, 32]) (ByteArray.mk #[44, 32]))).drew := r4 w1.drew
        have l1 : ∀ W : World, LokR (W.alloc (twoM (ByteArray.mk #[32, 111, 110, 32]) (ByteArray.mk #[44, 32]))) W.heap.size q p := fun W => by rw [hp]; exact lok_two (alloc_at W _) q
        have l2 : ∀ W : World, LokR (W.alloc (owtM (ByteArray.mk #[32, 111, 110, 32]) (ByteArray.mk #[44, 32]))) W.heap.size q p := fun W => by rw [hp]; exact lok_owt (alloc_at W _) q
        have l3 : LokR (w1.alloc (twoM (ByteArray.mk #[32, 111, 110, 32]) (ByteArray.mk #[44, 32]))).drew w1.heap.size q p := l1 w1.drew
        have l4 : LokR (w1.alloc (owtM (ByteArray.mk #[32, 111, 110, 32]) (ByteArray.mk #[44, 32]))).drew w1.heap.size q p := l2 w1.drew
        have HL1 : Hid (∀ (W : World) (bm : Nat), W.heap[bm]? = some (twoM (ByteArray.mk #[32, 111, 110, 32]) (ByteArray.mk #[44, 32])) → LokR W bm q p) := Lib.hid fun W bm h => by rw [hp]; exact lok_two h q
        have HL2 : Hid (∀ (W : World) (bm : Nat), W.heap[bm]? = some (owtM (ByteArray.mk #[32, 111, 110, 32]) (ByteArray.mk #[44, 32])) → LokR W bm q p) := Lib.hid fun W bm h => by rw [hp]; exact lok_owt h q
        have HSZ : Hid True := trivial
        have HC0 : Hid (Below w1.heap.size w1 w1) := Below.refl _ w1
        have HC : Hid (Below w1.heap.size w1 w1.drew) := (Below.refl _ w1).drew
        have HCA : Hid (∀ o, Below w1.heap.size w1 (w1.alloc o).drew) := fun o => (own_below w1 o).drew
        clear hs hss hp hps hdd hel hok hen hb1 hb2 hE0 hdr ek hq SB o0 c0 c1 c2 c3 c4 c5 c6 c7 c8 c9 ca cb
        have o0 := HSB.out w1 HC0.out
        go_wp2_with fail
        go_region_held3 (fun W => W.cell? ⟨bo, 0, none⟩ = some (.pointer (some ⟨b, 0, none⟩)))
          ((first | with_reducible exact HSB.out _ (HC.out) | with_reducible exact HSB.out _ (HC0.out) | with_reducible exact HSB.out _ (HCA.out _) | with_reducible exact HSB.out _ (below_al (HC.out) (Nat.le_refl _) _) | with_reducible exact HSB.out _ (below_put (HC.out) (Nat.le_refl _) _) | with_reducible exact HSB.out _ (below_put (below_put (HC.out) (Nat.le_refl _) _) (Nat.le_refl _) _) | with_reducible exact HSB.out _ (below_al (below_al (HC.out) (Nat.le_refl _) _) (Nat.le_refl _) _) | with_reducible exact HSB.out _ (below_al (below_put (HC.out) (Nat.le_refl _) _) (Nat.le_refl _) _) | with_reducible exact HSB.out _ (below_al (below_put (below_put (HC.out) (Nat.le_refl _) _) (Nat.le_refl _) _) (Nat.le_refl _) _) | with_reducible exact HSZ.out))
          ((first
            | (go_at_call 33; refine (HDY.out _).mono ?_; rintro e u ⟨rfl, hb⟩
               first
                 | (have hm : u.heap[w1.heap.size]? = some (.map #[] 0) := (hb.block w1.heap.size (by simp)).trans (alloc_at _ _)
                    have e1 := ins_pt hm (ByteArray.mk #[32, 111, 110, 32])
                    have e2 := ins_pf hm (ByteArray.mk #[44, 32])
                    have e3 := ins_ptf (put_at hm (mtM (ByteArray.mk #[32, 111, 110, 32]))) (ByteArray.mk #[44, 32])
                    have e4 := ins_pft (put_at hm (mfM (ByteArray.mk #[44, 32]))) (ByteArray.mk #[32, 111, 110, 32])
                    have e5 := HL1.out _ _ (put_at (put_at hm (mtM (ByteArray.mk #[32, 111, 110, 32]))) _)
                    have e6 := HL2.out _ _ (put_at (put_at hm (mfM (ByteArray.mk #[44, 32]))) _)
                    have HC : Hid (Below w1.heap.size w1 u) := Lib.hid ((HCA.out _).trans (hb.mono (HCA.out _).size)))
                 | (have hm : u.heap[w1.heap.size]? = some (mtM (ByteArray.mk #[32, 111, 110, 32])) := (hb.block w1.heap.size (by simp)).trans (alloc_at _ _)
                    have e3 := ins_ptf hm (ByteArray.mk #[44, 32])
                    have e5 := HL1.out _ _ (put_at hm (twoM (ByteArray.mk #[32, 111, 110, 32]) (ByteArray.mk #[44, 32])))
                    have HC : Hid (Below w1.heap.size w1 u) := Lib.hid ((HCA.out _).trans (hb.mono (HCA.out _).size)))
                 | (have hm : u.heap[w1.heap.size]? = some (mfM (ByteArray.mk #[44, 32])) := (hb.block w1.heap.size (by simp)).trans (alloc_at _ _)
                    have e4 := ins_pft hm (ByteArray.mk #[32, 111, 110, 32])
                    have e6 := HL2.out _ _ (put_at hm (owtM (ByteArray.mk #[32, 111, 110, 32]) (ByteArray.mk #[44, 32])))
                    have HC : Hid (Below w1.heap.size w1 u) := Lib.hid ((HCA.out _).trans (hb.mono (HCA.out _).size)))
                 | (have hm : u.heap[w1.heap.size]? = some (twoM (ByteArray.mk #[32, 111, 110, 32]) (ByteArray.mk #[44, 32])) := (hb.block w1.heap.size (by simp)).trans (alloc_at _ _)
                    have e5 := HL1.out _ _ hm
                    have HC : Hid (Below w1.heap.size w1 u) := Lib.hid ((HCA.out _).trans (hb.mono (HCA.out _).size)))
                 | (have hm : u.heap[w1.heap.size]? = some (owtM (ByteArray.mk #[32, 111, 110, 32]) (ByteArray.mk #[44, 32])) := (hb.block w1.heap.size (by simp)).trans (alloc_at _ _)
                    have e6 := HL2.out _ _ hm
                    have HC : Hid (Below w1.heap.size w1 u) := Lib.hid ((HCA.out _).trans (hb.mono (HCA.out _).size)))
                 | have HC := Lib.hid (HC.out.trans (hb.mono HC.out.size))
               try clear hm
               clear hb)
            | (go_at_call 32
               first
                 | (have HX := Lib.hid (HC.out)
                    with_reducible refine (put2 B b m (l ++ onN x.dates k) p s _ (HE0.out.below HX.out).out HPB.out (HE0.out.below HX.out).size).mono ?_)
                 | (have HX := Lib.hid (HC.out.alloc HC.out.size (twoM (ByteArray.mk #[32, 111, 110, 32]) (ByteArray.mk #[44, 32])))
                    have HP := put2 B b m (l ++ onN x.dates k) p s _ (HE0.out.below HX.out).out HPB.out (HE0.out.below HX.out).size
                    simp only [World.size_alloc] at HP
                    with_reducible refine HP.mono ?_)
                 | (have HX := Lib.hid (HC.out.alloc HC.out.size (owtM (ByteArray.mk #[32, 111, 110, 32]) (ByteArray.mk #[44, 32])))
                    have HP := put2 B b m (l ++ onN x.dates k) p s _ (HE0.out.below HX.out).out HPB.out (HE0.out.below HX.out).size
                    simp only [World.size_alloc] at HP
                    with_reducible refine HP.mono ?_)
                 | (have HX := Lib.hid (below_put HC.out (Nat.le_refl _) (twoM (ByteArray.mk #[32, 111, 110, 32]) (ByteArray.mk #[44, 32])))
                    have HP := put2 B b m (l ++ onN x.dates k) p s _ (HE0.out.below HX.out).out HPB.out (HE0.out.below HX.out).size
                    simp only [World.putObj_size] at HP
                    with_reducible refine HP.mono ?_)
                 | (have HX := Lib.hid (below_put HC.out (Nat.le_refl _) (owtM (ByteArray.mk #[32, 111, 110, 32]) (ByteArray.mk #[44, 32])))
                    have HP := put2 B b m (l ++ onN x.dates k) p s _ (HE0.out.below HX.out).out HPB.out (HE0.out.below HX.out).size
                    simp only [World.putObj_size] at HP
                    with_reducible refine HP.mono ?_)
                 | (have HX := Lib.hid (below_put (below_put HC.out (Nat.le_refl _) (mtM (ByteArray.mk #[32, 111, 110, 32]))) (Nat.le_refl _) (twoM (ByteArray.mk #[32, 111, 110, 32]) (ByteArray.mk #[44, 32])))
                    have HP := put2 B b m (l ++ onN x.dates k) p s _ (HE0.out.below HX.out).out HPB.out (HE0.out.below HX.out).size
                    simp only [World.putObj_size] at HP
                    with_reducible refine HP.mono ?_)
                 | (have HX := Lib.hid (below_put (below_put HC.out (Nat.le_refl _) (mfM (ByteArray.mk #[44, 32]))) (Nat.le_refl _) (owtM (ByteArray.mk #[32, 111, 110, 32]) (ByteArray.mk #[44, 32])))
                    have HP := put2 B b m (l ++ onN x.dates k) p s _ (HE0.out.below HX.out).out HPB.out (HE0.out.below HX.out).size
                    simp only [World.putObj_size] at HP
                    with_reducible refine HP.mono ?_)
               rintro e u ⟨rfl, hio, hok⟩
               have HOKu := Lib.hid ((OutK.below (b := b) HX.out HE0.out.size).trans hok)
               have HEu := Lib.hid ((HE0.out.below HX.out).step hio hok)
               have HSZ : Hid (u.cell? ⟨bo, 0, none⟩ = some (.pointer (some ⟨b, 0, none⟩))) := Lib.hid (exCell (HOKu.out.2 bo _ HB2.out (by simpa using h2) (by intro c fz e; simp at e)) 0)
               clear hio hok)))
        all_goals
          have HE3 := HEu
          have HK3 := Lib.hid (HOK1.out.trans HOKu.out)
          go_wp2_with fail
          go_roundw
          case rel => exact ⟨k + 1, hlt, by go_num, by rw [HT.out, ← List.append_assoc]; exact HE3.out, HK3.out⟩
          case measure => simp [intOf] <;> omega
    · have HE : Hid (onN x.dates k = onT x.dates) := by
        show onN x.dates k = _
        unfold onN
        rw [List.take_of_length_le (by rw [HLEN.out]; omega)]
      clear hb1 hb2 hok hen
      go_wp2_with fail
      go_end0
      exact ⟨rfl, by rw [← HE.out]; exact HEN1.out.out, HOK1.out⟩

end Go.Proofs.YtijkefflpojmhaaDoor

namespace Go.Proofs.YtijkefflpojmhaaDoor
open Go.RowKit

/-- The contract of contract at trees of a depth. -/
def ContrC (Wb : World) (B b : Nat) (m : Value) (n : Nat) : Prop :=
  ∀ (x : Ct) (cs : List Value) (d : Nat) (l : List UInt8) (w : World), CtAt n Wb cs x → OkC n x → d + x.size ≤ 3000 → OutEnv Wb B b m l w → l.length + (pcT n x d).length ≤ 1000000000 →
    Calls Tryd.prog 20 #[.pointer (some ⟨b, 0, none⟩), .agg cs.toArray, .int .i64 (d : Int)] w (WrP B b m (l ++ pcT n x d) w)
/-- The cells of contracts, one after the other, in a world and behind each writer. -/
def PartsIn (Wb : World) (B b n g o : Nat) (ys : List Ct) (w : World) : Prop :=
  ∀ W, OutK B b w W → ∀ i (hi : i < ys.length), ∃ cs', (∀ j, j < 12 → W.cell? ⟨g, o + i * 12 + j, none⟩ = cs'[j]?) ∧ CtAt n Wb cs' ys[i]
theorem PartsIn.elem {Wb : World} {B b n g o : Nat} {ys : List Ct} {w W : World} (h : PartsIn Wb B b n g o ys w) (hW : OutK B b w W) {k : Nat} (hk : k < ys.length) :
    ∃ y, y = ys[k] ∧ ∃ ea el ec da dl dc a len cap, (W.cell? ⟨g, o + k * 12, none⟩ = some (.int .u8 y.kind) ∧ W.cell? ⟨g, o + k * 12 + 1, none⟩ = some (.string y.frm) ∧ W.cell? ⟨g, o + k * 12 + 2, none⟩ = some (.string y.too) ∧ W.cell? ⟨g, o + k * 12 + 3, none⟩ = some (.string y.name) ∧
      W.cell? ⟨g, o + k * 12 + 4, none⟩ = some (.int .u8 y.expr.kind) ∧ W.cell? ⟨g, o + k * 12 + 5, none⟩ = some (.string y.expr.rat) ∧ W.cell? ⟨g, o + k * 12 + 6, none⟩ = some (.string y.expr.name) ∧ W.cell? ⟨g, o + k * 12 + 7, none⟩ = some (.int .i64 y.expr.date) ∧ W.cell? ⟨g, o + k * 12 + 8, none⟩ = some (.slice ea el ec) ∧
      W.cell? ⟨g, o + k * 12 + 9, none⟩ = some (.int .i64 y.date) ∧ W.cell? ⟨g, o + k * 12 + 10, none⟩ = some (.slice da dl dc) ∧ W.cell? ⟨g, o + k * 12 + 11, none⟩ = some (.slice a len cap)) ∧ CtAt n Wb [.int .u8 y.kind, .string y.frm, .string y.too, .string y.name, .int .u8 y.expr.kind, .string y.expr.rat, .string y.expr.name, .int .i64 y.expr.date, .slice ea el ec, .int .i64 y.date, .slice da dl dc, .slice a len cap] y := by
  obtain ⟨cs', hat, hx⟩ := h W hW k hk
  obtain ⟨ea, el, ec, da, dl, dc, a, len, cap, hcs, _⟩ := hx.shape
  rw [hcs] at hat hx
  exact ⟨_, rfl, ea, el, ec, da, dl, dc, a, len, cap, ⟨hat 0 (by omega), hat 1 (by omega), hat 2 (by omega), hat 3 (by omega), hat 4 (by omega), hat 5 (by omega), hat 6 (by omega), hat 7 (by omega), hat 8 (by omega), hat 9 (by omega), hat 10 (by omega), hat 11 (by omega)⟩, hx⟩
theorem ctbox_kept {w w' : World} {B b i : Nat} {c0 c1 c2 c3 c4 c5 c6 c7 c8 c9 ca cb : Value} (h : w.heap[i]? = some (.cells #[c0, c1, c2, c3, c4, c5, c6, c7, c8, c9, ca, cb] 29)) (hk : OutK B b w w') (hib : i ≠ b) : w'.heap[i]? = some (.cells #[c0, c1, c2, c3, c4, c5, c6, c7, c8, c9, ca, cb] 29) :=
  hk.2 i _ h (by simpa using hib) (by intro c fz e; simp at e)
/-- Behind the first k parts. -/
noncomputable def brN (n d : Nat) (bt : List UInt8) (ys : List Ct) (k : Nat) : List UInt8 := brL d bt ((ys.take k).map fun y => pcT n y (d + 1))
theorem brN_succ (n d : Nat) (bt : List UInt8) (ys : List Ct) (k : Nat) (h : k < ys.length) : brN n d bt ys (k + 1) = brN n d bt ys k ++ (if k = 0 then [] else bt) ++ ([10] ++ spc (d + 1)) ++ pcT n ys[k] (d + 1) := by
  unfold brN
  rw [List.take_succ_eq_append_getElem h, List.map_append, List.map_singleton, brL_snoc]
  congr 3
  by_cases hk : k = 0
  · subst hk; simp
  · have hne : (ys.take k).map (fun y => pcT n y (d + 1)) ≠ [] := by
      intro e; have := congrArg List.length e; rw [List.length_map, List.length_take, List.length_nil] at this; omega
    rw [if_neg hne, if_neg hk]
theorem brL_le (d : Nat) (bt : List UInt8) (ts us : List (List UInt8)) : (brL d bt ts).length ≤ (brL d bt (ts ++ us)).length := by
  cases ts with
  | nil => simp [brL]
  | cons a ts => simp [brL, List.flatMap_append]
theorem brN_le (n d : Nat) (bt : List UInt8) (ys : List Ct) (k : Nat) : (brN n d bt ys k).length ≤ (brL d bt (ys.map fun y => pcT n y (d + 1))).length := by
  have e : ys.map (fun y => pcT n y (d + 1)) = (ys.take k).map (fun y => pcT n y (d + 1)) ++ (ys.drop k).map (fun y => pcT n y (d + 1)) := by rw [← List.map_append, List.take_append_drop]
  rw [e]
  exact brL_le _ _ _ _
theorem brN_all (n d : Nat) (bt : List UInt8) (ys : List Ct) (k : Nat) (h : ys.length ≤ k) : brN n d bt ys k = brL d bt (ys.map fun y => pcT n y (d + 1)) := by
  unfold brN; rw [List.take_of_length_le h]

set_option maxHeartbeats 1000000 in
set_option maxRecDepth 100000 in
theorem braces_of {Wb : World} {B b n : Nat} {m : Value} (ih : ContrC Wb B b m n) (d : Nat) (bt : ByteArray) (hbt : bt.size ≤ 10) (ys : List Ct) (g o len cap : Nat) (l : List UInt8) (w : World) (hlen : ys.length = len) (h2 : len ≤ 2) (he : OutEnv Wb B b m l w)
    (hat : PartsIn Wb B b n g o ys w) (hok : ∀ y ∈ ys, OkC n y) (hd : ∀ y ∈ ys, d + 1 + y.size ≤ 3000) (hd0 : d ≤ 3000) (hl : l.length + (brT d bt.data.toList (ys.map fun y => pcT n y (d + 1))).length ≤ 1000000000) :
    Calls Tryd.prog 34 #[.pointer (some ⟨b, 0, none⟩), .int .i64 (d : Int), .string bt, .slice (some ⟨g, o, none⟩) len cap] w (WrP B b m (l ++ brT d bt.data.toList (ys.map fun y => pcT n y (d + 1))) w) := by
  have HI := Lib.hid ih
  have HAT := Lib.hid hat
  have HOK := Lib.hid hok
  have HD := Lib.hid hd
  have HLEN := Lib.hid hlen
  have HEN := Lib.hid he
  have hbl : bt.data.toList.length = bt.size := by simp
  obtain ⟨Z, hZ⟩ : ∃ Z, Z = brL d bt.data.toList (ys.map fun y => pcT n y (d + 1)) := ⟨_, rfl⟩
  have hbr : brT d bt.data.toList (ys.map fun y => pcT n y (d + 1)) = [123] ++ Z ++ ([10] ++ spc d) ++ [125] := by rw [hZ]; rfl
  have hsd : (spc d).length = 2 * d := by unfold spc; simp
  rw [hbr] at hl ⊢
  have hlz : l.length + Z.length + 1 ≤ 1000000000 := by
    simp only [List.length_append, List.length_cons, List.length_nil] at hl; omega
  have HLE : Hid (∀ k, (brN n d bt.data.toList ys k).length ≤ Z.length) := fun k => by rw [hZ]; exact brN_le _ _ _ _ _
  have HALL : Hid (∀ k, ys.length ≤ k → brN n d bt.data.toList ys k = Z) := fun k hk => by rw [hZ]; exact brN_all _ _ _ _ _ hk
  have HP0 := Lib.hid (put1 B b m l (ByteArray.mk #[123]) w he.out (by show l.length + 1 ≤ _; omega) he.size)
  have HCD : Hid (((d + 1 : Nat) : Int) = (d : Int) + 1) := Int.natCast_succ d
  clear ih hat hok hd hlen he hZ hbr hl
  go_enter Tryd.func34, Tryd.ntmps34
  go_wp2_with fail
  refine HP0.out.mono ?_
  rintro e w0 ⟨rfl, hio, hok0⟩
  have HE0 := Lib.hid (HEN.out.step hio hok0)
  have HK0 := Lib.hid hok0
  clear hio hok0
  go_wp2_with fail
  go_loopw [15] (fun iv wr => ∃ k : Nat, k ≤ len ∧ iv = .int .i64 (k : Int) ∧ OutEnv Wb B b m (l ++ ([123] ++ brN n d bt.data.toList ys k)) wr ∧ OutK B b w wr) (fun iv _ => len - (intOf iv).toNat)
  case atStart => exact ⟨0, Nat.zero_le _, rfl, by simpa [brN, brL] using HE0.out, HK0.out⟩
  case round =>
    obtain ⟨w1, rfl⟩ : ∃ w1 : World, w1 = wr := ⟨_, rfl⟩
    obtain ⟨k, hk, rfl, hen, hokw⟩ := hrel
    have HK1 := Lib.hid hokw
    have HE1 := Lib.hid hen
    by_cases hlt : k < len
    · have hlt2 : k < ys.length := by rw [HLEN.out]; exact hlt
      have HT := Lib.hid (brN_succ n d bt.data.toList ys k hlt2)
      obtain ⟨y, hy, eap, elp, ecp, dap, dlp, dcp, ap, lenp, capp, ⟨e0, e1, e2, e3, e4, e5, e6, e7, e8, e9, ea_, eb_⟩, hx⟩ := HAT.out.elem hokw hlt2
      rw [← hy] at HT
      have hym : y ∈ ys := by rw [hy]; exact List.getElem_mem _
      have HOY := Lib.hid (HOK.out y hym)
      have HDY := Lib.hid (HD.out y hym)
      have hdy := HD.out y hym
      have hys := y.size_pos
      have HX := Lib.hid hx
      obtain ⟨W1, hW1⟩ : ∃ W1, W1 = w1.alloc (.cells #[.int .u8 y.kind, .string y.frm, .string y.too, .string y.name, .int .u8 y.expr.kind, .string y.expr.rat, .string y.expr.name, .int .i64 y.expr.date, .slice eap elp ecp, .int .i64 y.date, .slice dap dlp dcp, .slice ap lenp capp] 29) := ⟨_, rfl⟩
      have hbx : W1.heap[w1.heap.size]? = some (.cells #[.int .u8 y.kind, .string y.frm, .string y.too, .string y.name, .int .u8 y.expr.kind, .string y.expr.rat, .string y.expr.name, .int .i64 y.expr.date, .slice eap elp ecp, .int .i64 y.date, .slice dap dlp dcp, .slice ap lenp capp] 29) := by rw [hW1]; exact alloc_at _ _
      have hEA : OutEnv Wb B b m (l ++ ([123] ++ brN n d bt.data.toList ys k)) W1 := by rw [hW1]; exact hen.below (own_below w1 _)
      have hKA : OutK B b w W1 := hokw.trans (by rw [hW1]; exact OutK.below (own_below w1 _) hen.size)
      have hbw := hen.lt
      have hqk := HLE.out k
      have hk0i : (0 : Int) ≤ (k : Int) := by omega
      have hk1i : (k : Int) < (len : Int) := by omega
      have hW1s : W1.heap.size = w1.heap.size + 1 := by rw [hW1]; simp
      have HW1 := Lib.hid hW1
      clear hym hy hx hW1 hen hokw
      by_cases hk0 : k = 0
      · subst hk0
        simp only [Nat.zero_mul, Nat.add_zero] at e0 e1 e2 e3 e4 e5 e6 e7 e8 e9 ea_ eb_
        have HBX2 := Lib.hid hbx
        have HE2 := Lib.hid hEA
        have HK2 := Lib.hid hKA
        have HLN := Lib.hid (line_any B b m (l ++ ([123] ++ brN n d bt.data.toList ys 0)) (d + 1) W1 hEA.out (by omega) (by simp only [List.length_append, List.length_cons, List.length_nil]; omega) hEA.size)
        rw [HCD.out] at HLN
        obtain ⟨c0, c1, c2, c3, c4, c5, c6, c7, c8, c9, ca, cb⟩ := ctBox hbx
        clear hbx hEA hKA
        go_wp2_with fail
        clear c0 c1 c2 c3 c4 c5 c6 c7 c8 c9 ca cb
        rw [← HW1.out]
        refine HLN.out.mono ?_
        rintro e w3 ⟨rfl, hio3, hok3⟩
        have hE3 := HE2.out.step hio3 hok3
        have HBX3 := Lib.hid (ctbox_kept HBX2.out hok3 (by omega))
        have HK3 := Lib.hid (HK2.out.trans hok3)
        have HE3 := Lib.hid hE3
        have HCC := Lib.hid (HI.out y _ (d + 1) _ w3 HX.out HOY.out HDY.out hE3 (by
          have q := HLE.out (0 + 1)
          rw [HT.out] at q
          simp only [List.length_append, List.length_cons, List.length_nil] at q ⊢
          have : (List.replicate (2 * (d + 1)) (32 : UInt8)).length = (spc (d + 1)).length := rfl
          simp only [if_true, List.length_nil] at q
          omega))
        rw [HCD.out] at HCC
        obtain ⟨c0, c1, c2, c3, c4, c5, c6, c7, c8, c9, ca, cb⟩ := ctBox HBX3.out
        clear hio3 hok3 hE3
        go_wp2_with fail
        refine HCC.out.mono ?_
        rintro e w4 ⟨rfl, hio4, hok4⟩
        have HE4 := Lib.hid (HE3.out.step hio4 hok4)
        have HK4 := Lib.hid (HK3.out.trans hok4)
        clear hio4 hok4 c0 c1 c2 c3 c4 c5 c6 c7 c8 c9 ca cb
        go_wp2_with fail
        go_roundw
        case rel => exact ⟨0 + 1, hlt, by go_num, by rw [HT.out]; simpa [List.append_assoc, spc] using HE4.out, HK4.out⟩
        case measure => simp [intOf] <;> omega
      · have hk1 : (0 : Int) < (k : Int) := by omega
        have d0 : decide ((0 : Int) < (k : Int)) = true := decide_eq_true hk1
        have HBX1 := Lib.hid hbx
        have HEA := Lib.hid hEA
        have HKA := Lib.hid hKA
        have HPT := Lib.hid (put1 B b m (l ++ ([123] ++ brN n d bt.data.toList ys k)) bt W1 hEA.out (by simp only [List.length_append, List.length_cons, List.length_nil]; omega) hEA.size)
        rw [hW1s] at HPT
        obtain ⟨c0, c1, c2, c3, c4, c5, c6, c7, c8, c9, ca, cb⟩ := ctBox hbx
        clear hbx hEA hKA
        go_wp2_with fail
        rw [← HW1.out]
        with_reducible refine HPT.out.mono ?_
        rintro e w2 ⟨rfl, hio2, hok2⟩
        have hE2 := HEA.out.step hio2 hok2
        have HBX2 := Lib.hid (ctbox_kept HBX1.out hok2 (by omega))
        have HK2 := Lib.hid (HKA.out.trans hok2)
        have HE2 := Lib.hid hE2
        have HLN := Lib.hid (line_any B b m _ (d + 1) w2 hE2.out (by omega) (by simp only [List.length_append, List.length_cons, List.length_nil]; omega) hE2.size)
        rw [HCD.out] at HLN
        clear hio2 hok2 hE2 c0 c1 c2 c3 c4 c5 c6 c7 c8 c9 ca cb
        go_wp2_with fail
        refine HLN.out.mono ?_
        rintro e w3 ⟨rfl, hio3, hok3⟩
        have hE3 := HE2.out.step hio3 hok3
        have HBX3 := Lib.hid (ctbox_kept HBX2.out hok3 (by omega))
        have HK3 := Lib.hid (HK2.out.trans hok3)
        have HE3 := Lib.hid hE3
        have HCC := Lib.hid (HI.out y _ (d + 1) _ w3 HX.out HOY.out HDY.out hE3 (by
          have q := HLE.out (k + 1)
          rw [HT.out] at q
          simp only [List.length_append, List.length_cons, List.length_nil] at q ⊢
          have : (List.replicate (2 * (d + 1)) (32 : UInt8)).length = (spc (d + 1)).length := rfl
          rw [if_neg hk0] at q
          omega))
        rw [HCD.out] at HCC
        obtain ⟨c0, c1, c2, c3, c4, c5, c6, c7, c8, c9, ca, cb⟩ := ctBox HBX3.out
        clear hio3 hok3 hE3
        go_wp2_with fail
        refine HCC.out.mono ?_
        rintro e w4 ⟨rfl, hio4, hok4⟩
        have HE4 := Lib.hid (HE3.out.step hio4 hok4)
        have HK4 := Lib.hid (HK3.out.trans hok4)
        clear hio4 hok4 c0 c1 c2 c3 c4 c5 c6 c7 c8 c9 ca cb
        go_wp2_with fail
        go_roundw
        case rel => exact ⟨k + 1, hlt, by go_num, by rw [HT.out]; rw [if_neg hk0]; simpa [List.append_assoc, spc] using HE4.out, HK4.out⟩
        case measure => simp [intOf] <;> omega
    · have HE : Hid (brN n d bt.data.toList ys k = Z) := HALL.out k (by rw [HLEN.out]; omega)
      have HE2 := HE1
      rw [HE.out] at HE2
      have HLN := Lib.hid (line_any B b m (l ++ ([123] ++ Z)) d w1 HE2.out.out (by omega) (by simp only [List.length_append, List.length_cons, List.length_nil]; omega) HE2.out.size)
      clear hen hokw
      go_wp2_with fail
      refine HLN.out.mono ?_
      rintro e w3 ⟨rfl, hio3, hok3⟩
      have hE3 := HE2.out.step hio3 hok3
      have HK3 := Lib.hid (HK1.out.trans hok3)
      have HPE := Lib.hid (put1 B b m _ (ByteArray.mk #[125]) w3 hE3.out (by simp only [List.length_append, List.length_cons, List.length_nil, List.length_replicate]; show _ + 1 ≤ _; omega) hE3.size)
      clear hio3 hok3 hE3
      go_wp2_with fail
      refine HPE.out.mono ?_
      rintro e w4 ⟨rfl, hio4, hok4⟩
      have HF : Hid (WrP B b m (l ++ ([123] ++ Z ++ ([10] ++ spc d) ++ [125])) w (.returned (.tuple #[])) w4) := ⟨rfl, by simpa [List.append_assoc, spc] using hio4, HK3.out.trans hok4⟩
      clear hio4 hok4
      go_wp2_with fail
      go_end0
      simpa [List.append_assoc] using HF.out

end Go.Proofs.YtijkefflpojmhaaDoor

namespace Go.Proofs.YtijkefflpojmhaaDoor
open Go.RowKit

/-- What stands while a contract is written: the boxes of o and c behind the world of the call. -/
structure CAt (Wb : World) (B b : Nat) (m : Value) (w : World) (cc : Array Value) (l : List UInt8) (W : World) : Prop where
  env : OutEnv Wb B b m l W
  kept : OutK B b w W
  obx : W.heap[w.heap.size]? = some (.cells #[.pointer (some ⟨b, 0, none⟩)] 47)
  cbx : W.heap[w.heap.size + 1]? = some (.cells cc 29)
  lt : b < w.heap.size
theorem CAt.step {Wb : World} {B b : Nat} {m : Value} {w : World} {cc : Array Value} {l l' : List UInt8} {W W' : World} (h : CAt Wb B b m w cc l W) (ho : IsOut B b m l' W') (hk : OutK B b W W') : CAt Wb B b m w cc l' W' :=
  ⟨h.env.step ho hk, h.kept.trans hk, hk.2 _ _ h.obx (by have := h.lt; simp; omega) (by intro c fz e; simp at e), hk.2 _ _ h.cbx (by have := h.lt; simp; omega) (by intro c fz e; simp at e), h.lt⟩
theorem CAt.cast {Wb : World} {B b : Nat} {m : Value} {w : World} {cc : Array Value} {l l' : List UInt8} {W : World} (e : l = l') (h : CAt Wb B b m w cc l W) : CAt Wb B b m w cc l' W := e ▸ h
theorem CAt.below {Wb : World} {B b : Nat} {m : Value} {w : World} {cc : Array Value} {l : List UInt8} {W W' : World} (h : CAt Wb B b m w cc l W) (hb : Below W.heap.size W W') : CAt Wb B b m w cc l W' :=
  ⟨h.env.below hb, h.kept.trans (OutK.below hb h.env.size), (hb.block _ (Array.getElem?_eq_some_iff.1 h.obx).1).trans h.obx, (hb.block _ (Array.getElem?_eq_some_iff.1 h.cbx).1).trans h.cbx, h.lt⟩
theorem CAt.start {Wb : World} {B b : Nat} {m : Value} {w : World} {l : List UInt8} (cc : Array Value) (he : OutEnv Wb B b m l w) : CAt Wb B b m w cc l ((w.alloc (.cells #[.pointer (some ⟨b, 0, none⟩)] 47)).alloc (.cells cc 29)) := by
  have hb : Below w.heap.size w ((w.alloc (.cells #[.pointer (some ⟨b, 0, none⟩)] 47)).alloc (.cells cc 29)) := (own_below w _).alloc (by simp) _
  exact ⟨he.below hb, OutK.below hb he.size, heap_two .., by have := alloc_at (w.alloc (.cells #[.pointer (some ⟨b, 0, none⟩)] 47)) (.cells cc 29); rwa [World.size_alloc] at this, he.lt⟩
theorem put4 (B b : Nat) (m : Value) (l : List UInt8) (s t u v : ByteArray) (w : World) (h : IsOut B b m l w) (hlen : l.length + (s.size + (t.size + (u.size + v.size))) ≤ 140737488355328) (hBw : B ≤ w.heap.size) :
    Calls Tryd.prog 32 #[.pointer (some ⟨b, 0, none⟩), .slice (some ⟨w.heap.size, 0, none⟩) 4 4] (w.alloc (.cells #[.string s, .string t, .string u, .string v] 9)) (WrP B b m (l ++ (s.data.toList ++ (t.data.toList ++ (u.data.toList ++ v.data.toList)))) w) := by
  have hK := OutK.below (b := b) (own_below w (.cells #[.string s, .string t, .string u, .string v] 9)) hBw
  refine (put_any B b w.heap.size m l [s, t, u, v] _ 4 (h.below (own_below w _)) (alloc_at _ _) rfl (by omega) (by simpa [catB] using hlen) (by simp; omega)).mono ?_
  rintro e w' ⟨rfl, h1, h2⟩
  exact ⟨rfl, by simpa [catB] using h1, hK.trans h2⟩
/-- One part, laid in a block of its own. -/
theorem parts_one {Wb : World} {B b n : Nat} {ea da a : Option Addr} {el ec dl dc len cap : Nat} {y : Ct} {W : World} (hx : CtAt n Wb [.int .u8 y.kind, .string y.frm, .string y.too, .string y.name, .int .u8 y.expr.kind, .string y.expr.rat, .string y.expr.name, .int .i64 y.expr.date, .slice ea el ec, .int .i64 y.date, .slice da dl dc, .slice a len cap] y) (hb : b < W.heap.size) : PartsIn Wb B b n W.heap.size 0 [y] (W.alloc (.cells #[.int .u8 y.kind, .string y.frm, .string y.too, .string y.name, .int .u8 y.expr.kind, .string y.expr.rat, .string y.expr.name, .int .i64 y.expr.date, .slice ea el ec, .int .i64 y.date, .slice da dl dc, .slice a len cap] 29)) := by
  intro W' hW' i hi
  obtain rfl : i = 0 := by simp at hi; omega
  have hbk := hW'.2 W.heap.size _ (alloc_at W _) (by simp; omega) (by intro c fz e; simp at e)
  refine ⟨_, fun j hj => ?_, hx⟩
  rw [Nat.zero_mul, Nat.zero_add, Lib.cell_of_heap hbk]
  simp
/-- Parts that lie in the tree's memory. -/
theorem parts_old {Wb : World} {B b n g o : Nat} {ys : List Ct} {w : World} (hbase : Wb.heap.size ≤ B) (hold : Below Wb.heap.size Wb w) (hg : g < Wb.heap.size) (hel : ∀ i (hi : i < ys.length), ∃ cs', (∀ j, j < 12 → Wb.cell? ⟨g, o + i * 12 + j, none⟩ = cs'[j]?) ∧ CtAt n Wb cs' ys[i]) : PartsIn Wb B b n g o ys w := by
  intro W hW i hi
  obtain ⟨cs', h1, h2⟩ := hel i hi
  exact ⟨cs', fun j hj => ((bcell (hold.trans (hW.1.mono hbase))).1 _ _ hg).trans (h1 j hj), h2⟩
/-- Behind the first k parts. -/
noncomputable def subN (n d : Nat) (ys : List Ct) (k : Nat) : List UInt8 := subT d ((ys.take k).map fun y => pcT n y (d + 1))
theorem subN_succ (n d : Nat) (ys : List Ct) (k : Nat) (h : k < ys.length) : subN n d ys (k + 1) = subN n d ys k ++ (if decide (k = 0) = true then [32] else [32, 101, 108, 115, 101, 32]) ++ brT d [] [pcT n ys[k] (d + 1)] := by
  unfold subN
  rw [List.take_succ_eq_append_getElem h, List.map_append, List.map_singleton, subT_snoc]
  congr 2
  by_cases hk : k = 0
  · subst hk; simp
  · have hne : (ys.take k).map (fun y => pcT n y (d + 1)) ≠ [] := by
      intro e; have := congrArg List.length e; rw [List.length_map, List.length_take, List.length_nil] at this; omega
    rw [if_neg hne, if_neg (by simpa using hk)]
theorem subT_le (d : Nat) (ts us : List (List UInt8)) : (subT d ts).length ≤ (subT d (ts ++ us)).length := by
  cases ts with
  | nil => simp [subT]
  | cons a ts => simp [subT, List.flatMap_append]
theorem subN_le (n d : Nat) (ys : List Ct) (k : Nat) : (subN n d ys k).length ≤ (subT d (ys.map fun y => pcT n y (d + 1))).length := by
  have e : ys.map (fun y => pcT n y (d + 1)) = (ys.take k).map (fun y => pcT n y (d + 1)) ++ (ys.drop k).map (fun y => pcT n y (d + 1)) := by rw [← List.map_append, List.take_append_drop]
  rw [e]
  exact subT_le _ _ _
theorem subN_all (n d : Nat) (ys : List Ct) (k : Nat) (h : ys.length ≤ k) : subN n d ys k = subT d (ys.map fun y => pcT n y (d + 1)) := by
  unfold subN; rw [List.take_of_length_le h]
theorem pex_0 (n : Nat) (x : Ex) : pexT n x 0 = rexT n x := by rw [pex_rex, opO_0]; rfl

end Go.Proofs.YtijkefflpojmhaaDoor

namespace Go.Proofs.YtijkefflpojmhaaDoor
open Go.RowKit

set_option maxHeartbeats 2000000 in
set_option maxRecDepth 100000 in
theorem contr_1 {Wb : World} {B b n : Nat} {m : Value} (_ih : ContrC Wb B b m n) (x : Ct) (hk : x.kind = 1) (cs : List Value) (d : Nat) (l : List UInt8) (w : World) (h : CtAt (n + 1) Wb cs x) (ho : OkC (n + 1) x) (_hd : d + x.size ≤ 3000) (he : OutEnv Wb B b m l w) (hlen : l.length + (pcT (n + 1) x d).length ≤ 1000000000) :
    Calls Tryd.prog 20 #[.pointer (some ⟨b, 0, none⟩), .agg cs.toArray, .int .i64 (d : Int)] w (WrP B b m (l ++ pcT (n + 1) x d) w) := by
  obtain ⟨ea, el, ec, da, dl, dc, a, len, cap, rfl, hex, hds, hlen2, hsub⟩ := h
  have hcs : (ctCells x ea el ec da dl dc a len cap).toArray = #[.int .u8 1, .string x.frm, .string x.too, .string x.name, .int .u8 x.expr.kind, .string x.expr.rat, .string x.expr.name, .int .i64 x.expr.date, .slice ea el ec, .int .i64 x.date, .slice da dl dc, .slice a len cap] := by unfold ctCells; rw [hk]
  rw [hcs]
  obtain ⟨_, hns, hox, hdt, _, hday, hsok⟩ := ho
  have hc0 := CAt.start #[.int .u8 1, .string x.frm, .string x.too, .string x.name, .int .u8 x.expr.kind, .string x.expr.rat, .string x.expr.name, .int .i64 x.expr.date, .slice ea el ec, .int .i64 x.date, .slice da dl dc, .slice a len cap] he
  obtain ⟨W0, hW0⟩ : ∃ W0, W0 = (w.alloc (.cells #[.pointer (some ⟨b, 0, none⟩)] 47)).alloc (.cells #[.int .u8 1, .string x.frm, .string x.too, .string x.name, .int .u8 x.expr.kind, .string x.expr.rat, .string x.expr.name, .int .i64 x.expr.date, .slice ea el ec, .int .i64 x.date, .slice da dl dc, .slice a len cap] 29) := ⟨_, rfl⟩
  have hW0s : W0.heap.size = w.heap.size + 1 + 1 := by rw [hW0]; simp
  rw [← hW0] at hc0
  have HW0 := Lib.hid hW0
  have HC0 := Lib.hid hc0
  have hpc : pcT (n + 1) x d = [110, 111, 116, 104, 105, 110, 103] := by rw [pcT, if_pos hk]; rfl
  rw [hpc] at hlen ⊢
  have HP0 := Lib.hid (put1 B b m l (ByteArray.mk #[110, 111, 116, 104, 105, 110, 103]) W0 hc0.env.out (by show l.length + 7 ≤ _; simp only [List.length_cons, List.length_nil] at hlen; omega) hc0.env.size)
  rw [hW0s] at HP0
  clear _ih hsub hlen2 hpc hns hox hdt hday hcs hex hds hW0 hc0 hsok
  go_enter Tryd.func20, Tryd.ntmps20
  go_wp2_with fail
  rw [← HW0.out]
  with_reducible refine HP0.out.mono ?_
  rintro e w1 ⟨rfl, hio1, hok1⟩
  have HC1 := Lib.hid (HC0.out.step hio1 hok1)
  have HF : Hid (WrP B b m (l ++ [110, 111, 116, 104, 105, 110, 103]) w (.returned (.tuple #[])) w1) := ⟨rfl, HC1.out.env.out, HC1.out.kept⟩
  clear hio1 hok1
  go_wp2_with fail
  go_end0
  exact HF.out

set_option maxHeartbeats 2000000 in
set_option maxRecDepth 100000 in
theorem contr_3 {Wb : World} {B b n : Nat} {m : Value} (ih : ContrC Wb B b m n) (x : Ct) (hk : x.kind = 3) (cs : List Value) (d : Nat) (l : List UInt8) (w : World) (h : CtAt (n + 1) Wb cs x) (ho : OkC (n + 1) x) (hd : d + x.size ≤ 3000) (he : OutEnv Wb B b m l w) (hlen : l.length + (pcT (n + 1) x d).length ≤ 1000000000) :
    Calls Tryd.prog 20 #[.pointer (some ⟨b, 0, none⟩), .agg cs.toArray, .int .i64 (d : Int)] w (WrP B b m (l ++ pcT (n + 1) x d) w) := by
  obtain ⟨ea, el, ec, da, dl, dc, a, len, cap, rfl, hex, hds, hlen2, hsub⟩ := h
  have hcs : (ctCells x ea el ec da dl dc a len cap).toArray = #[.int .u8 3, .string x.frm, .string x.too, .string x.name, .int .u8 x.expr.kind, .string x.expr.rat, .string x.expr.name, .int .i64 x.expr.date, .slice ea el ec, .int .i64 x.date, .slice da dl dc, .slice a len cap] := by unfold ctCells; rw [hk]
  rw [hcs]
  obtain ⟨_, hns, hox, hdt, _, hday, hsok⟩ := ho
  have hc0 := CAt.start #[.int .u8 3, .string x.frm, .string x.too, .string x.name, .int .u8 x.expr.kind, .string x.expr.rat, .string x.expr.name, .int .i64 x.expr.date, .slice ea el ec, .int .i64 x.date, .slice da dl dc, .slice a len cap] he
  obtain ⟨W0, hW0⟩ : ∃ W0, W0 = (w.alloc (.cells #[.pointer (some ⟨b, 0, none⟩)] 47)).alloc (.cells #[.int .u8 3, .string x.frm, .string x.too, .string x.name, .int .u8 x.expr.kind, .string x.expr.rat, .string x.expr.name, .int .i64 x.expr.date, .slice ea el ec, .int .i64 x.date, .slice da dl dc, .slice a len cap] 29) := ⟨_, rfl⟩
  have hW0s : W0.heap.size = w.heap.size + 1 + 1 := by rw [hW0]; simp
  rw [← hW0] at hc0
  have HW0 := Lib.hid hW0
  have HC0 := Lib.hid hc0
  obtain ⟨Y, hY⟩ : ∃ Y, Y = brT d [59] (x.sub.map fun y => pcT n y (d + 1)) := ⟨_, rfl⟩
  have hpc : pcT (n + 1) x d = [98, 111, 116, 104, 32] ++ Y := by rw [pcT, if_neg (by omega), if_neg (by omega), if_pos hk, hY]
  rw [hpc] at hlen ⊢
  rw [List.length_append] at hlen
  have h2 : len ≤ 2 := by rw [← hlen2, hns, hk]; decide
  have h3 : 1 ≤ len := by rw [← hlen2, hns, hk]; decide
  have hxp := x.size_pos
  rcases hsub with h0 | ⟨g, o, rfl, hg, hel⟩
  · omega
  have HP0 := Lib.hid (put1 B b m l (ByteArray.mk #[98, 111, 116, 104, 32]) W0 hc0.env.out (by show l.length + 5 ≤ _; simp only [List.length_cons, List.length_nil] at hlen; omega) hc0.env.size)
  rw [hW0s] at HP0
  have HBR : Hid (∀ W, CAt Wb B b m w #[.int .u8 3, .string x.frm, .string x.too, .string x.name, .int .u8 x.expr.kind, .string x.expr.rat, .string x.expr.name, .int .i64 x.expr.date, .slice ea el ec, .int .i64 x.date, .slice da dl dc, .slice (some ⟨g, o, none⟩) len cap] (l ++ [98, 111, 116, 104, 32]) W →
      Calls Tryd.prog 34 #[.pointer (some ⟨b, 0, none⟩), .int .i64 (d : Int), .string (ByteArray.mk #[59]), .slice (some ⟨g, o, none⟩) len cap] W (WrP B b m (l ++ [98, 111, 116, 104, 32] ++ Y) W)) := fun W hW => by
    have := braces_of ih d (ByteArray.mk #[59]) (by decide) x.sub g o len cap (l ++ [98, 111, 116, 104, 32]) W hlen2 (by omega) hW.env (parts_old hW.env.base hW.env.old hg hel) hsok (fun y hy => by have := Ct.sub_size hy; omega) (by omega) (by show _ + (brT d [59] _).length ≤ _; rw [← hY, List.length_append]; omega)
    rw [show (ByteArray.mk #[59]).data.toList = [59] from rfl, ← hY] at this
    exact this
  clear ih hel hlen2 hpc hns hox hdt hday hcs hex hds hW0 hc0 hsok hY
  go_enter Tryd.func20, Tryd.ntmps20
  go_wp2_with fail
  rw [← HW0.out]
  with_reducible refine HP0.out.mono ?_
  rintro e w1 ⟨rfl, hio1, hok1⟩
  have HC1 := Lib.hid (HC0.out.step hio1 hok1)
  clear hio1 hok1
  have HB1 := Lib.hid (HBR.out w1 HC1.out)
  obtain ⟨c0, c1, c2, c3, c4, c5, c6, c7, c8, c9, ca, cb⟩ := ctBox HC1.out.cbx
  have o0 := exCell HC1.out.obx 0
  go_wp2_with fail
  with_reducible refine HB1.out.mono ?_
  rintro e w2 ⟨rfl, hio2, hok2⟩
  have HC2 := Lib.hid (HC1.out.step hio2 hok2)
  have HF : Hid (WrP B b m (l ++ ([98, 111, 116, 104, 32] ++ Y)) w (.returned (.tuple #[])) w2) := ⟨rfl, by rw [← List.append_assoc]; exact HC2.out.env.out, HC2.out.kept⟩
  clear hio2 hok2 c0 c1 c2 c3 c4 c5 c6 c7 c8 c9 ca cb o0
  go_wp2_with fail
  go_end0
  exact HF.out

set_option maxHeartbeats 2000000 in
set_option maxRecDepth 100000 in
theorem contr_2 {Wb : World} {B b n : Nat} {m : Value} (_ih : ContrC Wb B b m n) (x : Ct) (hk : x.kind = 2) (cs : List Value) (d : Nat) (l : List UInt8) (w : World) (h : CtAt (n + 1) Wb cs x) (ho : OkC (n + 1) x) (_hd : d + x.size ≤ 3000) (he : OutEnv Wb B b m l w) (hlen : l.length + (pcT (n + 1) x d).length ≤ 1000000000) :
    Calls Tryd.prog 20 #[.pointer (some ⟨b, 0, none⟩), .agg cs.toArray, .int .i64 (d : Int)] w (WrP B b m (l ++ pcT (n + 1) x d) w) := by
  obtain ⟨ea, el, ec, da, dl, dc, a, len, cap, rfl, hex, hds, hlen2, hsub⟩ := h
  have hcs : (ctCells x ea el ec da dl dc a len cap).toArray = #[.int .u8 2, .string x.frm, .string x.too, .string x.name, .int .u8 x.expr.kind, .string x.expr.rat, .string x.expr.name, .int .i64 x.expr.date, .slice ea el ec, .int .i64 x.date, .slice da dl dc, .slice a len cap] := by unfold ctCells; rw [hk]
  rw [hcs]
  obtain ⟨_, hns, hox, hdt, _, hday, hsok⟩ := ho
  have hc0 := CAt.start #[.int .u8 2, .string x.frm, .string x.too, .string x.name, .int .u8 x.expr.kind, .string x.expr.rat, .string x.expr.name, .int .i64 x.expr.date, .slice ea el ec, .int .i64 x.date, .slice da dl dc, .slice a len cap] he
  obtain ⟨W0, hW0⟩ : ∃ W0, W0 = (w.alloc (.cells #[.pointer (some ⟨b, 0, none⟩)] 47)).alloc (.cells #[.int .u8 2, .string x.frm, .string x.too, .string x.name, .int .u8 x.expr.kind, .string x.expr.rat, .string x.expr.name, .int .i64 x.expr.date, .slice ea el ec, .int .i64 x.date, .slice da dl dc, .slice a len cap] 29) := ⟨_, rfl⟩
  have hW0s : W0.heap.size = w.heap.size + 1 + 1 := by rw [hW0]; simp
  rw [← hW0] at hc0
  have HW0 := Lib.hid hW0
  have HC0 := Lib.hid hc0
  have hpc : pcT (n + 1) x d = payT (n + 1) x := by rw [pcT, if_neg (by omega), if_pos hk]
  rw [hpc] at hlen ⊢
  unfold payT at hlen ⊢
  obtain ⟨E, hE⟩ : ∃ E, E = rexT (n + 1) x.expr := ⟨_, rfl⟩
  have HQ := Lib.hid (pqname_any x.frm)
  have HR := Lib.hid (pqname_any x.name)
  have HT := Lib.hid (pqname_any x.too)
  obtain ⟨q, hq⟩ : ∃ q, q = qn x.frm := ⟨_, rfl⟩
  obtain ⟨r, hr⟩ : ∃ r, r = qn x.name := ⟨_, rfl⟩
  obtain ⟨s, hs⟩ : ∃ s, s = qn x.too := ⟨_, rfl⟩
  rw [← hE, ← hq, ← hr, ← hs] at hlen ⊢
  rw [← hq] at HQ
  rw [← hr] at HR
  rw [← hs] at HT
  have hqz : q.data.toList.length = q.size := by simp
  have hrz : r.data.toList.length = r.size := by simp
  have hsz : s.data.toList.length = s.size := by simp
  simp only [List.length_append, List.length_cons, List.length_nil, hqz, hrz, hsz] at hlen
  have HXP : Hid (∀ l' W, OutEnv Wb B b m l' W → l'.length + E.length ≤ 1000000000 → Calls Tryd.prog 23 #[.pointer (some ⟨b, 0, none⟩), .agg #[.int .u8 x.expr.kind, .string x.expr.rat, .string x.expr.name, .int .i64 x.expr.date, .slice ea el ec], .int .i64 0] W (WrP B b m (l' ++ E) W)) := fun l' W hW hl' => by
    have := expr_all Wb B b m (n + 1) x.expr _ 0 l' W hex (hox (by rw [hk]; unfold HasEx; omega)).1 (by omega) (by omega) hW (by rw [pex_0, ← hE]; exact hl')
    rwa [pex_0, ← hE] at this
  have HPB : Hid (l.length + (q.size + (ByteArray.mk #[32, 112, 97, 121, 115, 32]).size) ≤ 140737488355328) := by show l.length + (q.size + 6) ≤ _; omega
  have SB : ∀ W, CAt Wb B b m w #[.int .u8 2, .string x.frm, .string x.too, .string x.name, .int .u8 x.expr.kind, .string x.expr.rat, .string x.expr.name, .int .i64 x.expr.date, .slice ea el ec, .int .i64 x.date, .slice da dl dc, .slice a len cap] l W → W.cell? ⟨w.heap.size, 0, none⟩ = some (.pointer (some ⟨b, 0, none⟩)) ∧ W.cell? ⟨w.heap.size + 1, 1, none⟩ = some (.string x.frm) := fun W hW => ⟨exCell hW.obx 0, (ctBox hW.cbx).2.1⟩
  have HSB := Lib.hid SB
  have HSZ : Hid True := trivial
  have HC : Hid (CAt Wb B b m w #[.int .u8 2, .string x.frm, .string x.too, .string x.name, .int .u8 x.expr.kind, .string x.expr.rat, .string x.expr.name, .int .i64 x.expr.date, .slice ea el ec, .int .i64 x.date, .slice da dl dc, .slice a len cap] l W0.drew) := HC0.out.below ((Below.refl _ _).drew)
  obtain ⟨c0, c1, c2, c3, c4, c5, c6, c7, c8, c9, ca, cb⟩ := ctBox hc0.cbx
  have o0 := exCell hc0.obx 0
  clear _ih hsub hlen2 hpc hns hox hdt hday hcs hex hds hW0 hc0 hsok hE hq hr hs SB
  go_enter Tryd.func20, Tryd.ntmps20
  go_wp2_with fail
  rw [← HW0.out]
  go_region_held3 (fun W => W.cell? ⟨w.heap.size, 0, none⟩ = some (.pointer (some ⟨b, 0, none⟩)) ∧ W.cell? ⟨w.heap.size + 1, 1, none⟩ = some (.string x.frm))
    ((first | with_reducible exact HSB.out _ HC.out | with_reducible exact HSB.out _ HC0.out | with_reducible exact HSB.out _ (HC.out.below (own_below _ _)) | with_reducible exact HSZ.out))
    ((first
      | (go_at_call 25
         first
           | (with_reducible refine (HQ.out _).mono ?_)
         rintro e u ⟨rfl, hb⟩
         have HC := Lib.hid (HC.out.below hb)
         clear hb)
      | (go_at_call 32
         with_reducible refine (put2 B b m l q (ByteArray.mk #[32, 112, 97, 121, 115, 32]) _ HC.out.env.out HPB.out HC.out.env.size).mono ?_
         rintro e u ⟨rfl, hio, hok⟩
         have HC1 := Lib.hid (HC.out.step hio hok)
         have HSZ : Hid (u.cell? ⟨w.heap.size, 0, none⟩ = some (.pointer (some ⟨b, 0, none⟩)) ∧ u.cell? ⟨w.heap.size + 1, 1, none⟩ = some (.string x.frm)) := Lib.hid ⟨exCell HC1.out.obx 0, (ctBox HC1.out.cbx).2.1⟩
         clear hio hok)))
  have HP1 := Lib.hid (HXP.out _ u HC1.out.env (by simp only [List.length_append, hqz]; show _ + (_ + 6) + _ ≤ _; omega))
  clear c0 c1 c2 c3 c4 c5 c6 c7 c8 c9 ca cb o0 HSB HSZ HPB HC
  obtain ⟨c0, c1, c2, c3, c4, c5, c6, c7, c8, c9, ca, cb⟩ := ctBox HC1.out.cbx
  have o0 := exCell HC1.out.obx 0
  go_wp2_with fail
  with_reducible refine HP1.out.mono ?_
  rintro e w2 ⟨rfl, hio2, hok2⟩
  have HC2 := Lib.hid (HC1.out.step hio2 hok2)
  clear hio2 hok2 c0 c1 c2 c3 c4 c5 c6 c7 c8 c9 ca cb o0
  obtain ⟨L, hL⟩ : ∃ L, L = l ++ (q.data.toList ++ (ByteArray.mk #[32, 112, 97, 121, 115, 32]).data.toList) ++ E := ⟨_, rfl⟩
  rw [← hL] at HC2
  have hLz : L.length = l.length + (q.size + 6) + E.length := by rw [hL]; simp only [List.length_append, hqz]; rfl
  have HL := Lib.hid hL
  clear hL
  have HPB : Hid (L.length + ((ByteArray.mk #[32]).size + (r.size + ((ByteArray.mk #[32, 116, 111, 32]).size + s.size))) ≤ 140737488355328) := by show L.length + (1 + (r.size + (4 + s.size))) ≤ _; omega
  have SB : ∀ W, CAt Wb B b m w #[.int .u8 2, .string x.frm, .string x.too, .string x.name, .int .u8 x.expr.kind, .string x.expr.rat, .string x.expr.name, .int .i64 x.expr.date, .slice ea el ec, .int .i64 x.date, .slice da dl dc, .slice a len cap] L W → W.cell? ⟨w.heap.size, 0, none⟩ = some (.pointer (some ⟨b, 0, none⟩)) ∧ W.cell? ⟨w.heap.size + 1, 3, none⟩ = some (.string x.name) ∧ W.cell? ⟨w.heap.size + 1, 2, none⟩ = some (.string x.too) := fun W hW => ⟨exCell hW.obx 0, (ctBox hW.cbx).2.2.2.1, (ctBox hW.cbx).2.2.1⟩
  have HSB := Lib.hid SB
  have HSZ : Hid True := trivial
  have HC : Hid (CAt Wb B b m w #[.int .u8 2, .string x.frm, .string x.too, .string x.name, .int .u8 x.expr.kind, .string x.expr.rat, .string x.expr.name, .int .i64 x.expr.date, .slice ea el ec, .int .i64 x.date, .slice da dl dc, .slice a len cap] L w2.drew) := HC2.out.below ((Below.refl _ _).drew)
  obtain ⟨c0, c1, c2, c3, c4, c5, c6, c7, c8, c9, ca, cb⟩ := ctBox HC2.out.cbx
  have o0 := exCell HC2.out.obx 0
  clear SB
  go_wp2_with fail
  go_region_held3 (fun W => W.cell? ⟨w.heap.size, 0, none⟩ = some (.pointer (some ⟨b, 0, none⟩)) ∧ W.cell? ⟨w.heap.size + 1, 3, none⟩ = some (.string x.name) ∧ W.cell? ⟨w.heap.size + 1, 2, none⟩ = some (.string x.too))
    ((first | with_reducible exact HSB.out _ HC.out | with_reducible exact HSB.out _ HC2.out | with_reducible exact HSB.out _ (HC.out.below (own_below _ _)) | with_reducible exact HSZ.out))
    ((first
      | (go_at_call 25
         first
           | (with_reducible refine (HR.out _).mono ?_)
           | (with_reducible refine (HT.out _).mono ?_)
         rintro e u ⟨rfl, hb⟩
         have HC := Lib.hid (HC.out.below hb)
         clear hb)
      | (go_at_call 32
         with_reducible refine (put4 B b m L (ByteArray.mk #[32]) r (ByteArray.mk #[32, 116, 111, 32]) s _ HC.out.env.out HPB.out HC.out.env.size).mono ?_
         rintro e u ⟨rfl, hio, hok⟩
         have HC3 := Lib.hid (HC.out.step hio hok)
         have HSZ : Hid (u.cell? ⟨w.heap.size, 0, none⟩ = some (.pointer (some ⟨b, 0, none⟩)) ∧ u.cell? ⟨w.heap.size + 1, 3, none⟩ = some (.string x.name) ∧ u.cell? ⟨w.heap.size + 1, 2, none⟩ = some (.string x.too)) := Lib.hid ⟨exCell HC3.out.obx 0, (ctBox HC3.out.cbx).2.2.2.1, (ctBox HC3.out.cbx).2.2.1⟩
         clear hio hok)))
  all_goals
    have HF : Hid (WrP B b m (l ++ (q.data.toList ++ [32, 112, 97, 121, 115, 32] ++ E ++ [32] ++ r.data.toList ++ [32, 116, 111, 32] ++ s.data.toList)) w (.returned (.tuple #[])) u) := ⟨rfl, by have := HC3.out.env.out; rw [HL.out] at this; simpa [List.append_assoc] using this, HC3.out.kept⟩
    clear c0 c1 c2 c3 c4 c5 c6 c7 c8 c9 ca cb o0
    go_wp2_with fail
    go_end0
    exact HF.out

end Go.Proofs.YtijkefflpojmhaaDoor

namespace Go.Proofs.YtijkefflpojmhaaDoor
open Go.RowKit

set_option maxHeartbeats 2000000 in
set_option maxRecDepth 100000 in
theorem contr_4 {Wb : World} {B b n : Nat} {m : Value} (ih : ContrC Wb B b m n) (x : Ct) (hk : x.kind = 4) (cs : List Value) (d : Nat) (l : List UInt8) (w : World) (h : CtAt (n + 1) Wb cs x) (ho : OkC (n + 1) x) (hd : d + x.size ≤ 3000) (he : OutEnv Wb B b m l w) (hlen : l.length + (pcT (n + 1) x d).length ≤ 1000000000) :
    Calls Tryd.prog 20 #[.pointer (some ⟨b, 0, none⟩), .agg cs.toArray, .int .i64 (d : Int)] w (WrP B b m (l ++ pcT (n + 1) x d) w) := by
  obtain ⟨ea, el, ec, da, dl, dc, a, len, cap, rfl, hex, hds, hlen2, hsub⟩ := h
  have hcs : (ctCells x ea el ec da dl dc a len cap).toArray = #[.int .u8 4, .string x.frm, .string x.too, .string x.name, .int .u8 x.expr.kind, .string x.expr.rat, .string x.expr.name, .int .i64 x.expr.date, .slice ea el ec, .int .i64 x.date, .slice da dl dc, .slice a len cap] := by unfold ctCells; rw [hk]
  rw [hcs]
  obtain ⟨_, hns, hox, hdt, _, hday, hsok⟩ := ho
  obtain ⟨Y, hY⟩ : ∃ Y, Y = subT d (x.sub.map fun y => pcT n y (d + 1)) := ⟨_, rfl⟩
  obtain ⟨H, hH⟩ : ∃ H, H = headT (n + 1) x := ⟨_, rfl⟩
  have hpc : pcT (n + 1) x d = H ++ Y := by rw [pcT, if_neg (by omega), if_neg (by omega), if_neg (by omega), hY, hH]
  rw [hpc] at hlen ⊢
  rw [List.length_append] at hlen
  have hlen3 : len ≤ 2 := by rw [← hlen2, hns]; unfold nSub; split <;> (try split) <;> decide
  have HSUB := Lib.hid hsub
  have HSOK := Lib.hid hsok
  have HLE : Hid (∀ k, (subN n d x.sub k).length ≤ Y.length) := fun k => by rw [hY]; exact subN_le _ _ _ _
  have HALL : Hid (∀ k, x.sub.length ≤ k → subN n d x.sub k = Y) := fun k hk => by rw [hY]; exact subN_all _ _ _ _ hk
  have HDS : Hid (∀ y ∈ x.sub, d + 1 + y.size ≤ 3000) := fun y hy => by have := Ct.sub_size hy; omega
  have hxp := x.size_pos
  have hd1 : d ≤ 3000 := by omega
  have HLEN2 := Lib.hid hlen2
  have HI := Lib.hid ih
  have hc0 := CAt.start #[.int .u8 4, .string x.frm, .string x.too, .string x.name, .int .u8 x.expr.kind, .string x.expr.rat, .string x.expr.name, .int .i64 x.expr.date, .slice ea el ec, .int .i64 x.date, .slice da dl dc, .slice a len cap] he
  obtain ⟨W0, hW0⟩ : ∃ W0, W0 = (w.alloc (.cells #[.pointer (some ⟨b, 0, none⟩)] 47)).alloc (.cells #[.int .u8 4, .string x.frm, .string x.too, .string x.name, .int .u8 x.expr.kind, .string x.expr.rat, .string x.expr.name, .int .i64 x.expr.date, .slice ea el ec, .int .i64 x.date, .slice da dl dc, .slice a len cap] 29) := ⟨_, rfl⟩
  have hW0s : W0.heap.size = w.heap.size + 1 + 1 := by rw [hW0]; simp
  rw [← hW0] at hc0
  have HW0 := Lib.hid hW0
  have HC0 := Lib.hid hc0
  have hH2 : H = [115, 99, 97, 108, 101, 32] ++ rexT (n + 1) x.expr := by rw [hH]; unfold headT; rw [if_pos hk]
  obtain ⟨E, hE⟩ : ∃ E, E = rexT (n + 1) x.expr := ⟨_, rfl⟩
  rw [← hE] at hH2
  have HXP : Hid (∀ l' W, OutEnv Wb B b m l' W → l'.length + E.length ≤ 1000000000 → Calls Tryd.prog 23 #[.pointer (some ⟨b, 0, none⟩), .agg #[.int .u8 x.expr.kind, .string x.expr.rat, .string x.expr.name, .int .i64 x.expr.date, .slice ea el ec], .int .i64 0] W (WrP B b m (l' ++ E) W)) := fun l' W hW hl' => by
    have := expr_all Wb B b m (n + 1) x.expr _ 0 l' W hex (hox (by rw [hk]; unfold HasEx; omega)).1 (by omega) (by omega) hW (by rw [pex_0, ← hE]; exact hl')
    rwa [pex_0, ← hE] at this
  have hHl : H.length = 6 + E.length := by rw [hH2]; simp only [List.length_append, List.length_cons, List.length_nil]
  have HP0 := Lib.hid (put1 B b m l (ByteArray.mk #[115, 99, 97, 108, 101, 32]) W0 hc0.env.out (by show l.length + 6 ≤ _; omega) hc0.env.size)
  rw [hW0s] at HP0
  have HH2 := Lib.hid hH2
  clear ih hsub hsok hlen2 hY hpc hH hE hH2 hns hox hdt hday hcs hex hds hW0 hc0
  go_enter Tryd.func20, Tryd.ntmps20
  go_wp2_with fail
  rw [← HW0.out]
  with_reducible refine HP0.out.mono ?_
  rintro e w1 ⟨rfl, hio1, hok1⟩
  have HC1 := Lib.hid (HC0.out.step hio1 hok1)
  have HP1 := Lib.hid (HXP.out _ w1 HC1.out.env (by simp only [List.length_append]; show l.length + 6 + _ ≤ _; omega))
  obtain ⟨c0, c1, c2, c3, c4, c5, c6, c7, c8, c9, ca, cb⟩ := ctBox HC1.out.cbx
  have o0 := exCell HC1.out.obx 0
  clear hio1 hok1
  go_wp2_with fail
  with_reducible refine HP1.out.mono ?_
  rintro e w2 ⟨rfl, hio2, hok2⟩
  have HCE : Hid (CAt Wb B b m w #[.int .u8 4, .string x.frm, .string x.too, .string x.name, .int .u8 x.expr.kind, .string x.expr.rat, .string x.expr.name, .int .i64 x.expr.date, .slice ea el ec, .int .i64 x.date, .slice da dl dc, .slice a len cap] (l ++ H) w2) := by
    have := HC1.out.step hio2 hok2
    show CAt _ _ _ _ _ _ _ _
    rw [HH2.out, ← List.append_assoc]; exact this
  clear hio2 hok2 c0 c1 c2 c3 c4 c5 c6 c7 c8 c9 ca cb o0
  obtain ⟨c0, c1, c2, c3, c4, c5, c6, c7, c8, c9, ca, cb⟩ := ctBox HCE.out.cbx
  have o0 := exCell HCE.out.obx 0
  go_wp2_with fail
  go_loopw [119] (fun iv wr => ∃ k : Nat, k ≤ len ∧ iv = .int .i64 (k : Int) ∧ CAt Wb B b m w #[.int .u8 4, .string x.frm, .string x.too, .string x.name, .int .u8 x.expr.kind, .string x.expr.rat, .string x.expr.name, .int .i64 x.expr.date, .slice ea el ec, .int .i64 x.date, .slice da dl dc, .slice a len cap] (l ++ (H ++ subN n d x.sub k)) wr) (fun iv _ => len - (intOf iv).toNat)
  case atStart => exact ⟨0, Nat.zero_le _, rfl, by simpa [subN, subT] using HCE.out⟩
  case round =>
    clear c0 c1 c2 c3 c4 c5 c6 c7 c8 c9 ca cb o0
    obtain ⟨v1, rfl⟩ : ∃ w1 : World, w1 = wr := ⟨_, rfl⟩
    obtain ⟨k, hk, rfl, hcat⟩ := hrel
    have HCA := Lib.hid hcat
    have o0 := exCell hcat.obx 0
    by_cases hlt : k < len
    · have hlt2 : k < x.sub.length := by rw [HLEN2.out]; exact hlt
      rcases HSUB.out with h0 | ⟨g, o, ha, hg, hel⟩
      · omega
      · subst ha
        have HT := Lib.hid (subN_succ n d x.sub k hlt2)
        have hqk := HLE.out (k + 1)
        rw [HT.out] at hqk
        obtain ⟨y, hy, eap, elp, ecp, dap, dlp, dcp, ap, lenp, capp, ⟨e0, e1, e2, e3, e4, e5, e6, e7, e8, e9, ea_, eb_⟩, hx⟩ := (parts_old (B := B) (b := b) hcat.env.base hcat.env.old hg hel).elem (OutK.refl _ _ _) hlt2
        rw [← hy] at HT hqk
        have hym : y ∈ x.sub := by rw [hy]; exact List.getElem_mem _
        have HOY := Lib.hid (HSOK.out y hym)
        have HDY := Lib.hid (HDS.out y hym)
        have HX := Lib.hid hx
        have q0 : ((k : Int) == 0) = decide (k = 0) := by by_cases h : k = 0 <;> simp [h]
        obtain ⟨p, hp⟩ : ∃ p : ByteArray, p = if decide (k = 0) = true then ByteArray.mk #[32] else ByteArray.mk #[32, 101, 108, 115, 101, 32] := ⟨_, rfl⟩
        have hps : (if decide (k = 0) = true then [32] else [32, 101, 108, 115, 101, 32]) = p.data.toList := by rw [hp]; split <;> rfl
        rw [hps] at HT hqk
        have hpl : p.data.toList.length = p.size := by simp
        have u0 := ins_at (v1.alloc (.cells #[.int .u8 y.kind, .string y.frm, .string y.too, .string y.name, .int .u8 y.expr.kind, .string y.expr.rat, .string y.expr.name, .int .i64 y.expr.date, .slice eap elp ecp, .int .i64 y.date, .slice dap dlp dcp, .slice ap lenp capp] 29)) (ByteArray.mk #[32])
        have u1 := ins_atf (v1.alloc (.cells #[.int .u8 y.kind, .string y.frm, .string y.too, .string y.name, .int .u8 y.expr.kind, .string y.expr.rat, .string y.expr.name, .int .i64 y.expr.date, .slice eap elp ecp, .int .i64 y.date, .slice dap dlp dcp, .slice ap lenp capp] 29)) (ByteArray.mk #[32]) (ByteArray.mk #[32, 101, 108, 115, 101, 32])
        have lk := lok_two (alloc_at (v1.alloc (.cells #[.int .u8 y.kind, .string y.frm, .string y.too, .string y.name, .int .u8 y.expr.kind, .string y.expr.rat, .string y.expr.name, .int .i64 y.expr.date, .slice eap elp ecp, .int .i64 y.date, .slice dap dlp dcp, .slice ap lenp capp] 29)) (twoM (ByteArray.mk #[32]) (ByteArray.mk #[32, 101, 108, 115, 101, 32]))) (decide (k = 0))
        rw [← hp] at lk
        rw [World.size_alloc] at u0 u1 lk
        obtain ⟨q, hq⟩ : ∃ q, q = decide (k = 0) := ⟨_, rfl⟩
        rw [← hq] at q0 lk
        have hmm := @run_makeMap Tryd.prog
        have HBX := Lib.hid (alloc_at v1 (.cells #[.int .u8 y.kind, .string y.frm, .string y.too, .string y.name, .int .u8 y.expr.kind, .string y.expr.rat, .string y.expr.name, .int .i64 y.expr.date, .slice eap elp ecp, .int .i64 y.date, .slice dap dlp dcp, .slice ap lenp capp] 29))
        have hcb := HCA.out.below (own_below v1 (.cells #[.int .u8 y.kind, .string y.frm, .string y.too, .string y.name, .int .u8 y.expr.kind, .string y.expr.rat, .string y.expr.name, .int .i64 y.expr.date, .slice eap elp ecp, .int .i64 y.date, .slice dap dlp dcp, .slice ap lenp capp] 29))
        have HBV := Lib.hid (own_below (v1.alloc (.cells #[.int .u8 y.kind, .string y.frm, .string y.too, .string y.name, .int .u8 y.expr.kind, .string y.expr.rat, .string y.expr.name, .int .i64 y.expr.date, .slice eap elp ecp, .int .i64 y.date, .slice dap dlp dcp, .slice ap lenp capp] 29)) (twoM (ByteArray.mk #[32]) (ByteArray.mk #[32, 101, 108, 115, 101, 32])))
        have hcv := hcb.below HBV.out
        obtain ⟨V, hV⟩ : ∃ V, V = (v1.alloc (.cells #[.int .u8 y.kind, .string y.frm, .string y.too, .string y.name, .int .u8 y.expr.kind, .string y.expr.rat, .string y.expr.name, .int .i64 y.expr.date, .slice eap elp ecp, .int .i64 y.date, .slice dap dlp dcp, .slice ap lenp capp] 29)).alloc (twoM (ByteArray.mk #[32]) (ByteArray.mk #[32, 101, 108, 115, 101, 32])) := ⟨_, rfl⟩
        have hVs : V.heap.size = v1.heap.size + 1 + 1 := by rw [hV]; simp
        have hbx : V.heap[v1.heap.size]? = some (.cells #[.int .u8 y.kind, .string y.frm, .string y.too, .string y.name, .int .u8 y.expr.kind, .string y.expr.rat, .string y.expr.name, .int .i64 y.expr.date, .slice eap elp ecp, .int .i64 y.date, .slice dap dlp dcp, .slice ap lenp capp] 29) := by rw [hV]; exact heap_two ..
        rw [← hV] at hcv
        have HCV := Lib.hid hcv
        have HBXV := Lib.hid hbx
        have hbw := hcat.env.lt
        have hbo := (Array.getElem?_eq_some_iff.1 hcat.obx).1
        have hbc := (Array.getElem?_eq_some_iff.1 hcat.cbx).1
        have hl0 : 0 ≤ (subN n d x.sub k).length := Nat.zero_le _
        simp only [List.length_append] at hqk
        have HPP := Lib.hid (put1 B b m _ p V hcv.env.out (by simp only [List.length_append]; omega) hcv.env.size)
        rw [hVs] at HPP
        have HV := Lib.hid hV
        clear hy hym hx hp hps hq hcb hcv hV hbx hcat hel HBV HBX
        have L0 : (0 : Int) ≤ (k : Int) := by omega
        have L1 : (k : Int) < (len : Int) := by omega
        have HK0 : Hid (k = 0 ∨ ¬ k = 0) := Lib.hid (by omega)
        go_wp2_with fail
        rw [← HV.out]
        with_reducible refine HPP.out.mono ?_
        rintro e v2 ⟨rfl, hio2, hok2⟩
        have HC2 := Lib.hid (HCV.out.step hio2 hok2)
        have hbx2 := ctbox_kept HBXV.out hok2 (by omega)
        have o0 := exCell HC2.out.obx 0
        have hc3 := HC2.out.below (own_below v2 (.cells #[.int .u8 y.kind, .string y.frm, .string y.too, .string y.name, .int .u8 y.expr.kind, .string y.expr.rat, .string y.expr.name, .int .i64 y.expr.date, .slice eap elp ecp, .int .i64 y.date, .slice dap dlp dcp, .slice ap lenp capp] 29))
        have HBR := Lib.hid (braces_of HI.out d (ByteArray.mk #[]) (by decide) [y] v2.heap.size 0 1 1 _ _ rfl (by omega) hc3.env (parts_one HX.out HC2.out.env.lt) (fun z hz => by rw [List.mem_singleton.1 hz]; exact HOY.out) (fun z hz => by rw [List.mem_singleton.1 hz]; exact HDY.out) hd1 (by
          show _ + (brT d [] [pcT n y (d + 1)]).length ≤ _
          simp only [List.length_append]; omega))
        obtain ⟨c0, c1, c2, c3, c4, c5, c6, c7, c8, c9, ca, cb⟩ := ctBox hbx2
        have HC3 := Lib.hid hc3
        clear hio2 hok2 hbx2 hc3 u0 u1 lk
        go_wp2_with fail
        with_reducible refine HBR.out.mono ?_
        rintro e v3 ⟨rfl, hio3, hok3⟩
        have HC4 := Lib.hid (CAt.cast (l' := l ++ (H ++ subN n d x.sub (k + 1))) (by rw [HT.out]; simp [List.append_assoc]) (HC3.out.step hio3 hok3))
        clear hio3 hok3 c0 c1 c2 c3 c4 c5 c6 c7 c8 c9 ca cb o0
        go_wp2_with fail
        go_roundw
        case rel => exact ⟨k + 1, hlt, by go_num, HC4.out⟩
        case measure => simp [intOf] <;> omega
    · have HE : Hid (subN n d x.sub k = Y) := HALL.out k (by rw [HLEN2.out]; omega)
      have HF : Hid (WrP B b m (l ++ (H ++ Y)) w (.returned (.tuple #[])) v1) := by
        have := HCA.out
        rw [HE.out] at this
        exact ⟨rfl, this.env.out, this.kept⟩
      clear hcat
      go_wp2_with fail
      go_end0
      exact HF.out

end Go.Proofs.YtijkefflpojmhaaDoor

namespace Go.Proofs.YtijkefflpojmhaaDoor
open Go.RowKit

set_option maxHeartbeats 2000000 in
set_option maxRecDepth 100000 in
theorem contr_5 {Wb : World} {B b n : Nat} {m : Value} (ih : ContrC Wb B b m n) (x : Ct) (hk : x.kind = 5) (cs : List Value) (d : Nat) (l : List UInt8) (w : World) (h : CtAt (n + 1) Wb cs x) (ho : OkC (n + 1) x) (hd : d + x.size ≤ 3000) (he : OutEnv Wb B b m l w) (hlen : l.length + (pcT (n + 1) x d).length ≤ 1000000000) :
    Calls Tryd.prog 20 #[.pointer (some ⟨b, 0, none⟩), .agg cs.toArray, .int .i64 (d : Int)] w (WrP B b m (l ++ pcT (n + 1) x d) w) := by
  obtain ⟨ea, el, ec, da, dl, dc, a, len, cap, rfl, hex, hds, hlen2, hsub⟩ := h
  have hcs : (ctCells x ea el ec da dl dc a len cap).toArray = #[.int .u8 5, .string x.frm, .string x.too, .string x.name, .int .u8 x.expr.kind, .string x.expr.rat, .string x.expr.name, .int .i64 x.expr.date, .slice ea el ec, .int .i64 x.date, .slice da dl dc, .slice a len cap] := by unfold ctCells; rw [hk]
  rw [hcs]
  obtain ⟨_, hns, hox, hdt, _, hday, hsok⟩ := ho
  obtain ⟨Y, hY⟩ : ∃ Y, Y = subT d (x.sub.map fun y => pcT n y (d + 1)) := ⟨_, rfl⟩
  obtain ⟨H, hH⟩ : ∃ H, H = headT (n + 1) x := ⟨_, rfl⟩
  have hpc : pcT (n + 1) x d = H ++ Y := by rw [pcT, if_neg (by omega), if_neg (by omega), if_neg (by omega), hY, hH]
  rw [hpc] at hlen ⊢
  rw [List.length_append] at hlen
  have hlen3 : len ≤ 2 := by rw [← hlen2, hns]; unfold nSub; split <;> (try split) <;> decide
  have HSUB := Lib.hid hsub
  have HSOK := Lib.hid hsok
  have HLE : Hid (∀ k, (subN n d x.sub k).length ≤ Y.length) := fun k => by rw [hY]; exact subN_le _ _ _ _
  have HALL : Hid (∀ k, x.sub.length ≤ k → subN n d x.sub k = Y) := fun k hk => by rw [hY]; exact subN_all _ _ _ _ hk
  have HDS : Hid (∀ y ∈ x.sub, d + 1 + y.size ≤ 3000) := fun y hy => by have := Ct.sub_size hy; omega
  have hxp := x.size_pos
  have hd1 : d ≤ 3000 := by omega
  have HLEN2 := Lib.hid hlen2
  have HI := Lib.hid ih
  have hc0 := CAt.start #[.int .u8 5, .string x.frm, .string x.too, .string x.name, .int .u8 x.expr.kind, .string x.expr.rat, .string x.expr.name, .int .i64 x.expr.date, .slice ea el ec, .int .i64 x.date, .slice da dl dc, .slice a len cap] he
  obtain ⟨W0, hW0⟩ : ∃ W0, W0 = (w.alloc (.cells #[.pointer (some ⟨b, 0, none⟩)] 47)).alloc (.cells #[.int .u8 5, .string x.frm, .string x.too, .string x.name, .int .u8 x.expr.kind, .string x.expr.rat, .string x.expr.name, .int .i64 x.expr.date, .slice ea el ec, .int .i64 x.date, .slice da dl dc, .slice a len cap] 29) := ⟨_, rfl⟩
  have hW0s : W0.heap.size = w.heap.size + 1 + 1 := by rw [hW0]; simp
  rw [← hW0] at hc0
  have HW0 := Lib.hid hW0
  have HC0 := Lib.hid hc0
  have hH2 : H = [105, 102, 32] ++ rexT (n + 1) x.expr := by rw [hH]; unfold headT; rw [if_neg (by omega), if_pos hk]
  obtain ⟨E, hE⟩ : ∃ E, E = rexT (n + 1) x.expr := ⟨_, rfl⟩
  rw [← hE] at hH2
  have HXP : Hid (∀ l' W, OutEnv Wb B b m l' W → l'.length + E.length ≤ 1000000000 → Calls Tryd.prog 23 #[.pointer (some ⟨b, 0, none⟩), .agg #[.int .u8 x.expr.kind, .string x.expr.rat, .string x.expr.name, .int .i64 x.expr.date, .slice ea el ec], .int .i64 0] W (WrP B b m (l' ++ E) W)) := fun l' W hW hl' => by
    have := expr_all Wb B b m (n + 1) x.expr _ 0 l' W hex (hox (by rw [hk]; unfold HasEx; omega)).1 (by omega) (by omega) hW (by rw [pex_0, ← hE]; exact hl')
    rwa [pex_0, ← hE] at this
  have hHl : H.length = 3 + E.length := by rw [hH2]; simp only [List.length_append, List.length_cons, List.length_nil]
  have HP0 := Lib.hid (put1 B b m l (ByteArray.mk #[105, 102, 32]) W0 hc0.env.out (by show l.length + 3 ≤ _; omega) hc0.env.size)
  rw [hW0s] at HP0
  have HH2 := Lib.hid hH2
  clear ih hsub hsok hlen2 hY hpc hH hE hH2 hns hox hdt hday hcs hex hds hW0 hc0
  go_enter Tryd.func20, Tryd.ntmps20
  go_wp2_with fail
  rw [← HW0.out]
  with_reducible refine HP0.out.mono ?_
  rintro e w1 ⟨rfl, hio1, hok1⟩
  have HC1 := Lib.hid (HC0.out.step hio1 hok1)
  have HP1 := Lib.hid (HXP.out _ w1 HC1.out.env (by simp only [List.length_append]; show l.length + 3 + _ ≤ _; omega))
  obtain ⟨c0, c1, c2, c3, c4, c5, c6, c7, c8, c9, ca, cb⟩ := ctBox HC1.out.cbx
  have o0 := exCell HC1.out.obx 0
  clear hio1 hok1
  go_wp2_with fail
  with_reducible refine HP1.out.mono ?_
  rintro e w2 ⟨rfl, hio2, hok2⟩
  have HCE : Hid (CAt Wb B b m w #[.int .u8 5, .string x.frm, .string x.too, .string x.name, .int .u8 x.expr.kind, .string x.expr.rat, .string x.expr.name, .int .i64 x.expr.date, .slice ea el ec, .int .i64 x.date, .slice da dl dc, .slice a len cap] (l ++ H) w2) := by
    have := HC1.out.step hio2 hok2
    show CAt _ _ _ _ _ _ _ _
    rw [HH2.out, ← List.append_assoc]; exact this
  clear hio2 hok2 c0 c1 c2 c3 c4 c5 c6 c7 c8 c9 ca cb o0
  obtain ⟨c0, c1, c2, c3, c4, c5, c6, c7, c8, c9, ca, cb⟩ := ctBox HCE.out.cbx
  have o0 := exCell HCE.out.obx 0
  go_wp2_with fail
  go_loopw [119] (fun iv wr => ∃ k : Nat, k ≤ len ∧ iv = .int .i64 (k : Int) ∧ CAt Wb B b m w #[.int .u8 5, .string x.frm, .string x.too, .string x.name, .int .u8 x.expr.kind, .string x.expr.rat, .string x.expr.name, .int .i64 x.expr.date, .slice ea el ec, .int .i64 x.date, .slice da dl dc, .slice a len cap] (l ++ (H ++ subN n d x.sub k)) wr) (fun iv _ => len - (intOf iv).toNat)
  case atStart => exact ⟨0, Nat.zero_le _, rfl, by simpa [subN, subT] using HCE.out⟩
  case round =>
    clear c0 c1 c2 c3 c4 c5 c6 c7 c8 c9 ca cb o0
    obtain ⟨v1, rfl⟩ : ∃ w1 : World, w1 = wr := ⟨_, rfl⟩
    obtain ⟨k, hk, rfl, hcat⟩ := hrel
    have HCA := Lib.hid hcat
    have o0 := exCell hcat.obx 0
    by_cases hlt : k < len
    · have hlt2 : k < x.sub.length := by rw [HLEN2.out]; exact hlt
      rcases HSUB.out with h0 | ⟨g, o, ha, hg, hel⟩
      · omega
      · subst ha
        have HT := Lib.hid (subN_succ n d x.sub k hlt2)
        have hqk := HLE.out (k + 1)
        rw [HT.out] at hqk
        obtain ⟨y, hy, eap, elp, ecp, dap, dlp, dcp, ap, lenp, capp, ⟨e0, e1, e2, e3, e4, e5, e6, e7, e8, e9, ea_, eb_⟩, hx⟩ := (parts_old (B := B) (b := b) hcat.env.base hcat.env.old hg hel).elem (OutK.refl _ _ _) hlt2
        rw [← hy] at HT hqk
        have hym : y ∈ x.sub := by rw [hy]; exact List.getElem_mem _
        have HOY := Lib.hid (HSOK.out y hym)
        have HDY := Lib.hid (HDS.out y hym)
        have HX := Lib.hid hx
        have q0 : ((k : Int) == 0) = decide (k = 0) := by by_cases h : k = 0 <;> simp [h]
        obtain ⟨p, hp⟩ : ∃ p : ByteArray, p = if decide (k = 0) = true then ByteArray.mk #[32] else ByteArray.mk #[32, 101, 108, 115, 101, 32] := ⟨_, rfl⟩
        have hps : (if decide (k = 0) = true then [32] else [32, 101, 108, 115, 101, 32]) = p.data.toList := by rw [hp]; split <;> rfl
        rw [hps] at HT hqk
        have hpl : p.data.toList.length = p.size := by simp
        have u0 := ins_at (v1.alloc (.cells #[.int .u8 y.kind, .string y.frm, .string y.too, .string y.name, .int .u8 y.expr.kind, .string y.expr.rat, .string y.expr.name, .int .i64 y.expr.date, .slice eap elp ecp, .int .i64 y.date, .slice dap dlp dcp, .slice ap lenp capp] 29)) (ByteArray.mk #[32])
        have u1 := ins_atf (v1.alloc (.cells #[.int .u8 y.kind, .string y.frm, .string y.too, .string y.name, .int .u8 y.expr.kind, .string y.expr.rat, .string y.expr.name, .int .i64 y.expr.date, .slice eap elp ecp, .int .i64 y.date, .slice dap dlp dcp, .slice ap lenp capp] 29)) (ByteArray.mk #[32]) (ByteArray.mk #[32, 101, 108, 115, 101, 32])
        have lk := lok_two (alloc_at (v1.alloc (.cells #[.int .u8 y.kind, .string y.frm, .string y.too, .string y.name, .int .u8 y.expr.kind, .string y.expr.rat, .string y.expr.name, .int .i64 y.expr.date, .slice eap elp ecp, .int .i64 y.date, .slice dap dlp dcp, .slice ap lenp capp] 29)) (twoM (ByteArray.mk #[32]) (ByteArray.mk #[32, 101, 108, 115, 101, 32]))) (decide (k = 0))
        rw [← hp] at lk
        rw [World.size_alloc] at u0 u1 lk
        obtain ⟨q, hq⟩ : ∃ q, q = decide (k = 0) := ⟨_, rfl⟩
        rw [← hq] at q0 lk
        have hmm := @run_makeMap Tryd.prog
        have HBX := Lib.hid (alloc_at v1 (.cells #[.int .u8 y.kind, .string y.frm, .string y.too, .string y.name, .int .u8 y.expr.kind, .string y.expr.rat, .string y.expr.name, .int .i64 y.expr.date, .slice eap elp ecp, .int .i64 y.date, .slice dap dlp dcp, .slice ap lenp capp] 29))
        have hcb := HCA.out.below (own_below v1 (.cells #[.int .u8 y.kind, .string y.frm, .string y.too, .string y.name, .int .u8 y.expr.kind, .string y.expr.rat, .string y.expr.name, .int .i64 y.expr.date, .slice eap elp ecp, .int .i64 y.date, .slice dap dlp dcp, .slice ap lenp capp] 29))
        have HBV := Lib.hid (own_below (v1.alloc (.cells #[.int .u8 y.kind, .string y.frm, .string y.too, .string y.name, .int .u8 y.expr.kind, .string y.expr.rat, .string y.expr.name, .int .i64 y.expr.date, .slice eap elp ecp, .int .i64 y.date, .slice dap dlp dcp, .slice ap lenp capp] 29)) (twoM (ByteArray.mk #[32]) (ByteArray.mk #[32, 101, 108, 115, 101, 32])))
        have hcv := hcb.below HBV.out
        obtain ⟨V, hV⟩ : ∃ V, V = (v1.alloc (.cells #[.int .u8 y.kind, .string y.frm, .string y.too, .string y.name, .int .u8 y.expr.kind, .string y.expr.rat, .string y.expr.name, .int .i64 y.expr.date, .slice eap elp ecp, .int .i64 y.date, .slice dap dlp dcp, .slice ap lenp capp] 29)).alloc (twoM (ByteArray.mk #[32]) (ByteArray.mk #[32, 101, 108, 115, 101, 32])) := ⟨_, rfl⟩
        have hVs : V.heap.size = v1.heap.size + 1 + 1 := by rw [hV]; simp
        have hbx : V.heap[v1.heap.size]? = some (.cells #[.int .u8 y.kind, .string y.frm, .string y.too, .string y.name, .int .u8 y.expr.kind, .string y.expr.rat, .string y.expr.name, .int .i64 y.expr.date, .slice eap elp ecp, .int .i64 y.date, .slice dap dlp dcp, .slice ap lenp capp] 29) := by rw [hV]; exact heap_two ..
        rw [← hV] at hcv
        have HCV := Lib.hid hcv
        have HBXV := Lib.hid hbx
        have hbw := hcat.env.lt
        have hbo := (Array.getElem?_eq_some_iff.1 hcat.obx).1
        have hbc := (Array.getElem?_eq_some_iff.1 hcat.cbx).1
        have hl0 : 0 ≤ (subN n d x.sub k).length := Nat.zero_le _
        simp only [List.length_append] at hqk
        have HPP := Lib.hid (put1 B b m _ p V hcv.env.out (by simp only [List.length_append]; omega) hcv.env.size)
        rw [hVs] at HPP
        have HV := Lib.hid hV
        clear hy hym hx hp hps hq hcb hcv hV hbx hcat hel HBV HBX
        have L0 : (0 : Int) ≤ (k : Int) := by omega
        have L1 : (k : Int) < (len : Int) := by omega
        have HK0 : Hid (k = 0 ∨ ¬ k = 0) := Lib.hid (by omega)
        go_wp2_with fail
        rw [← HV.out]
        with_reducible refine HPP.out.mono ?_
        rintro e v2 ⟨rfl, hio2, hok2⟩
        have HC2 := Lib.hid (HCV.out.step hio2 hok2)
        have hbx2 := ctbox_kept HBXV.out hok2 (by omega)
        have o0 := exCell HC2.out.obx 0
        have hc3 := HC2.out.below (own_below v2 (.cells #[.int .u8 y.kind, .string y.frm, .string y.too, .string y.name, .int .u8 y.expr.kind, .string y.expr.rat, .string y.expr.name, .int .i64 y.expr.date, .slice eap elp ecp, .int .i64 y.date, .slice dap dlp dcp, .slice ap lenp capp] 29))
        have HBR := Lib.hid (braces_of HI.out d (ByteArray.mk #[]) (by decide) [y] v2.heap.size 0 1 1 _ _ rfl (by omega) hc3.env (parts_one HX.out HC2.out.env.lt) (fun z hz => by rw [List.mem_singleton.1 hz]; exact HOY.out) (fun z hz => by rw [List.mem_singleton.1 hz]; exact HDY.out) hd1 (by
          show _ + (brT d [] [pcT n y (d + 1)]).length ≤ _
          simp only [List.length_append]; omega))
        obtain ⟨c0, c1, c2, c3, c4, c5, c6, c7, c8, c9, ca, cb⟩ := ctBox hbx2
        have HC3 := Lib.hid hc3
        clear hio2 hok2 hbx2 hc3 u0 u1 lk
        go_wp2_with fail
        with_reducible refine HBR.out.mono ?_
        rintro e v3 ⟨rfl, hio3, hok3⟩
        have HC4 := Lib.hid (CAt.cast (l' := l ++ (H ++ subN n d x.sub (k + 1))) (by rw [HT.out]; simp [List.append_assoc]) (HC3.out.step hio3 hok3))
        clear hio3 hok3 c0 c1 c2 c3 c4 c5 c6 c7 c8 c9 ca cb o0
        go_wp2_with fail
        go_roundw
        case rel => exact ⟨k + 1, hlt, by go_num, HC4.out⟩
        case measure => simp [intOf] <;> omega
    · have HE : Hid (subN n d x.sub k = Y) := HALL.out k (by rw [HLEN2.out]; omega)
      have HF : Hid (WrP B b m (l ++ (H ++ Y)) w (.returned (.tuple #[])) v1) := by
        have := HCA.out
        rw [HE.out] at this
        exact ⟨rfl, this.env.out, this.kept⟩
      clear hcat
      go_wp2_with fail
      go_end0
      exact HF.out

end Go.Proofs.YtijkefflpojmhaaDoor

namespace Go.Proofs.YtijkefflpojmhaaDoor
open Go.RowKit

set_option maxHeartbeats 2000000 in
set_option maxRecDepth 100000 in
theorem contr_6 {Wb : World} {B b n : Nat} {m : Value} (ih : ContrC Wb B b m n) (x : Ct) (hk : x.kind = 6) (cs : List Value) (d : Nat) (l : List UInt8) (w : World) (h : CtAt (n + 1) Wb cs x) (ho : OkC (n + 1) x) (hd : d + x.size ≤ 3000) (he : OutEnv Wb B b m l w) (hlen : l.length + (pcT (n + 1) x d).length ≤ 1000000000) :
    Calls Tryd.prog 20 #[.pointer (some ⟨b, 0, none⟩), .agg cs.toArray, .int .i64 (d : Int)] w (WrP B b m (l ++ pcT (n + 1) x d) w) := by
  obtain ⟨ea, el, ec, da, dl, dc, a, len, cap, rfl, hex, hds, hlen2, hsub⟩ := h
  have hcs : (ctCells x ea el ec da dl dc a len cap).toArray = #[.int .u8 6, .string x.frm, .string x.too, .string x.name, .int .u8 x.expr.kind, .string x.expr.rat, .string x.expr.name, .int .i64 x.expr.date, .slice ea el ec, .int .i64 x.date, .slice da dl dc, .slice a len cap] := by unfold ctCells; rw [hk]
  rw [hcs]
  obtain ⟨_, hns, hox, hdt, _, hday, hsok⟩ := ho
  obtain ⟨Y, hY⟩ : ∃ Y, Y = subT d (x.sub.map fun y => pcT n y (d + 1)) := ⟨_, rfl⟩
  obtain ⟨H, hH⟩ : ∃ H, H = headT (n + 1) x := ⟨_, rfl⟩
  have hpc : pcT (n + 1) x d = H ++ Y := by rw [pcT, if_neg (by omega), if_neg (by omega), if_neg (by omega), hY, hH]
  rw [hpc] at hlen ⊢
  rw [List.length_append] at hlen
  have hlen3 : len ≤ 2 := by rw [← hlen2, hns]; unfold nSub; split <;> (try split) <;> decide
  have HSUB := Lib.hid hsub
  have HSOK := Lib.hid hsok
  have HLE : Hid (∀ k, (subN n d x.sub k).length ≤ Y.length) := fun k => by rw [hY]; exact subN_le _ _ _ _
  have HALL : Hid (∀ k, x.sub.length ≤ k → subN n d x.sub k = Y) := fun k hk => by rw [hY]; exact subN_all _ _ _ _ hk
  have HDS : Hid (∀ y ∈ x.sub, d + 1 + y.size ≤ 3000) := fun y hy => by have := Ct.sub_size hy; omega
  have hxp := x.size_pos
  have hd1 : d ≤ 3000 := by omega
  have HLEN2 := Lib.hid hlen2
  have HI := Lib.hid ih
  have hc0 := CAt.start #[.int .u8 6, .string x.frm, .string x.too, .string x.name, .int .u8 x.expr.kind, .string x.expr.rat, .string x.expr.name, .int .i64 x.expr.date, .slice ea el ec, .int .i64 x.date, .slice da dl dc, .slice a len cap] he
  obtain ⟨W0, hW0⟩ : ∃ W0, W0 = (w.alloc (.cells #[.pointer (some ⟨b, 0, none⟩)] 47)).alloc (.cells #[.int .u8 6, .string x.frm, .string x.too, .string x.name, .int .u8 x.expr.kind, .string x.expr.rat, .string x.expr.name, .int .i64 x.expr.date, .slice ea el ec, .int .i64 x.date, .slice da dl dc, .slice a len cap] 29) := ⟨_, rfl⟩
  have hW0s : W0.heap.size = w.heap.size + 1 + 1 := by rw [hW0]; simp
  rw [← hW0] at hc0
  have HW0 := Lib.hid hW0
  have HC0 := Lib.hid hc0
  have hH2 : H = [111, 110, 32] ++ dtxt x.date := by rw [hH]; unfold headT; rw [if_neg (by omega), if_neg (by omega), if_pos hk]
  obtain ⟨s, hs⟩ : ∃ s, s = dS x.date := ⟨_, rfl⟩
  have hss : dtxt x.date = s.data.toList := by rw [hs]; rfl
  have hdr := hdt hk
  have HDY : Hid (∀ W, Calls Tryd.prog 33 #[.int .i64 x.date] W (fun e w' => e = .returned (.string s) ∧ Below W.heap.size W w')) := fun W => by rw [hs]; exact pdayT_is hdr.1 hdr.2 W
  rw [hss] at hH2
  have hsz : s.data.toList.length = s.size := by simp
  have hHl : H.length = 3 + s.size := by rw [hH2]; simp only [List.length_append, List.length_cons, List.length_nil, hsz]
  have HH2 := Lib.hid hH2
  have HPB : Hid (l.length + ((ByteArray.mk #[111, 110, 32]).size + s.size) ≤ 140737488355328) := by show l.length + (3 + s.size) ≤ _; omega
  have SB : ∀ W, CAt Wb B b m w #[.int .u8 6, .string x.frm, .string x.too, .string x.name, .int .u8 x.expr.kind, .string x.expr.rat, .string x.expr.name, .int .i64 x.expr.date, .slice ea el ec, .int .i64 x.date, .slice da dl dc, .slice a len cap] l W → W.cell? ⟨w.heap.size, 0, none⟩ = some (.pointer (some ⟨b, 0, none⟩)) ∧ W.cell? ⟨w.heap.size + 1, 9, none⟩ = some (.int .i64 x.date) := fun W hW => ⟨exCell hW.obx 0, (ctBox hW.cbx).2.2.2.2.2.2.2.2.2.1⟩
  have HSB := Lib.hid SB
  have HSZ : Hid True := trivial
  have HC : Hid (CAt Wb B b m w #[.int .u8 6, .string x.frm, .string x.too, .string x.name, .int .u8 x.expr.kind, .string x.expr.rat, .string x.expr.name, .int .i64 x.expr.date, .slice ea el ec, .int .i64 x.date, .slice da dl dc, .slice a len cap] l W0.drew) := HC0.out.below ((Below.refl _ _).drew)
  obtain ⟨c0, c1, c2, c3, c4, c5, c6, c7, c8, c9, ca, cb⟩ := ctBox hc0.cbx
  have o0 := exCell hc0.obx 0
  clear ih hsub hsok hlen2 hY hpc hH hH2 hns hox hdt hday hcs hex hds hW0 hc0 hs hss hdr SB
  go_enter Tryd.func20, Tryd.ntmps20
  go_wp2_with fail
  rw [← HW0.out]
  go_region_held3 (fun W => W.cell? ⟨w.heap.size, 0, none⟩ = some (.pointer (some ⟨b, 0, none⟩)) ∧ W.cell? ⟨w.heap.size + 1, 9, none⟩ = some (.int .i64 x.date))
    ((first | with_reducible exact HSB.out _ HC.out | with_reducible exact HSB.out _ HC0.out | with_reducible exact HSB.out _ (HC.out.below (own_below _ _)) | with_reducible exact HSZ.out))
    ((first
      | (go_at_call 33
         with_reducible refine (HDY.out _).mono ?_
         rintro e u ⟨rfl, hb⟩
         have HC := Lib.hid (HC.out.below hb)
         clear hb)
      | (go_at_call 32
         with_reducible refine (put2 B b m l (ByteArray.mk #[111, 110, 32]) s _ HC.out.env.out HPB.out HC.out.env.size).mono ?_
         rintro e u ⟨rfl, hio, hok⟩
         have HC2 := Lib.hid (HC.out.step hio hok)
         have HSZ : Hid (u.cell? ⟨w.heap.size, 0, none⟩ = some (.pointer (some ⟨b, 0, none⟩)) ∧ u.cell? ⟨w.heap.size + 1, 9, none⟩ = some (.int .i64 x.date)) := Lib.hid ⟨exCell HC2.out.obx 0, (ctBox HC2.out.cbx).2.2.2.2.2.2.2.2.2.1⟩
         clear hio hok)))
  clear c0 c1 c2 c3 c4 c5 c6 c7 c8 c9 ca cb o0
  have HCE := Lib.hid (CAt.cast (l' := l ++ H) (by rw [HH2.out]) HC2.out)
  obtain ⟨c0, c1, c2, c3, c4, c5, c6, c7, c8, c9, ca, cb⟩ := ctBox HCE.out.cbx
  have o0 := exCell HCE.out.obx 0
  go_wp2_with fail
  go_loopw [119] (fun iv wr => ∃ k : Nat, k ≤ len ∧ iv = .int .i64 (k : Int) ∧ CAt Wb B b m w #[.int .u8 6, .string x.frm, .string x.too, .string x.name, .int .u8 x.expr.kind, .string x.expr.rat, .string x.expr.name, .int .i64 x.expr.date, .slice ea el ec, .int .i64 x.date, .slice da dl dc, .slice a len cap] (l ++ (H ++ subN n d x.sub k)) wr) (fun iv _ => len - (intOf iv).toNat)
  case atStart => exact ⟨0, Nat.zero_le _, rfl, by simpa [subN, subT] using HCE.out⟩
  case round =>
    clear c0 c1 c2 c3 c4 c5 c6 c7 c8 c9 ca cb o0
    obtain ⟨v1, rfl⟩ : ∃ w1 : World, w1 = wr := ⟨_, rfl⟩
    obtain ⟨k, hk, rfl, hcat⟩ := hrel
    have HCA := Lib.hid hcat
    have o0 := exCell hcat.obx 0
    by_cases hlt : k < len
    · have hlt2 : k < x.sub.length := by rw [HLEN2.out]; exact hlt
      rcases HSUB.out with h0 | ⟨g, o, ha, hg, hel⟩
      · omega
      · subst ha
        have HT := Lib.hid (subN_succ n d x.sub k hlt2)
        have hqk := HLE.out (k + 1)
        rw [HT.out] at hqk
        obtain ⟨y, hy, eap, elp, ecp, dap, dlp, dcp, ap, lenp, capp, ⟨e0, e1, e2, e3, e4, e5, e6, e7, e8, e9, ea_, eb_⟩, hx⟩ := (parts_old (B := B) (b := b) hcat.env.base hcat.env.old hg hel).elem (OutK.refl _ _ _) hlt2
        rw [← hy] at HT hqk
        have hym : y ∈ x.sub := by rw [hy]; exact List.getElem_mem _
        have HOY := Lib.hid (HSOK.out y hym)
        have HDY := Lib.hid (HDS.out y hym)
        have HX := Lib.hid hx
        have q0 : ((k : Int) == 0) = decide (k = 0) := by by_cases h : k = 0 <;> simp [h]
        obtain ⟨p, hp⟩ : ∃ p : ByteArray, p = if decide (k = 0) = true then ByteArray.mk #[32] else ByteArray.mk #[32, 101, 108, 115, 101, 32] := ⟨_, rfl⟩
        have hps : (if decide (k = 0) = true then [32] else [32, 101, 108, 115, 101, 32]) = p.data.toList := by rw [hp]; split <;> rfl
        rw [hps] at HT hqk
        have hpl : p.data.toList.length = p.size := by simp
        have u0 := ins_at (v1.alloc (.cells #[.int .u8 y.kind, .string y.frm, .string y.too, .string y.name, .int .u8 y.expr.kind, .string y.expr.rat, .string y.expr.name, .int .i64 y.expr.date, .slice eap elp ecp, .int .i64 y.date, .slice dap dlp dcp, .slice ap lenp capp] 29)) (ByteArray.mk #[32])
        have u1 := ins_atf (v1.alloc (.cells #[.int .u8 y.kind, .string y.frm, .string y.too, .string y.name, .int .u8 y.expr.kind, .string y.expr.rat, .string y.expr.name, .int .i64 y.expr.date, .slice eap elp ecp, .int .i64 y.date, .slice dap dlp dcp, .slice ap lenp capp] 29)) (ByteArray.mk #[32]) (ByteArray.mk #[32, 101, 108, 115, 101, 32])
        have lk := lok_two (alloc_at (v1.alloc (.cells #[.int .u8 y.kind, .string y.frm, .string y.too, .string y.name, .int .u8 y.expr.kind, .string y.expr.rat, .string y.expr.name, .int .i64 y.expr.date, .slice eap elp ecp, .int .i64 y.date, .slice dap dlp dcp, .slice ap lenp capp] 29)) (twoM (ByteArray.mk #[32]) (ByteArray.mk #[32, 101, 108, 115, 101, 32]))) (decide (k = 0))
        rw [← hp] at lk
        rw [World.size_alloc] at u0 u1 lk
        obtain ⟨q, hq⟩ : ∃ q, q = decide (k = 0) := ⟨_, rfl⟩
        rw [← hq] at q0 lk
        have hmm := @run_makeMap Tryd.prog
        have HBX := Lib.hid (alloc_at v1 (.cells #[.int .u8 y.kind, .string y.frm, .string y.too, .string y.name, .int .u8 y.expr.kind, .string y.expr.rat, .string y.expr.name, .int .i64 y.expr.date, .slice eap elp ecp, .int .i64 y.date, .slice dap dlp dcp, .slice ap lenp capp] 29))
        have hcb := HCA.out.below (own_below v1 (.cells #[.int .u8 y.kind, .string y.frm, .string y.too, .string y.name, .int .u8 y.expr.kind, .string y.expr.rat, .string y.expr.name, .int .i64 y.expr.date, .slice eap elp ecp, .int .i64 y.date, .slice dap dlp dcp, .slice ap lenp capp] 29))
        have HBV := Lib.hid (own_below (v1.alloc (.cells #[.int .u8 y.kind, .string y.frm, .string y.too, .string y.name, .int .u8 y.expr.kind, .string y.expr.rat, .string y.expr.name, .int .i64 y.expr.date, .slice eap elp ecp, .int .i64 y.date, .slice dap dlp dcp, .slice ap lenp capp] 29)) (twoM (ByteArray.mk #[32]) (ByteArray.mk #[32, 101, 108, 115, 101, 32])))
        have hcv := hcb.below HBV.out
        obtain ⟨V, hV⟩ : ∃ V, V = (v1.alloc (.cells #[.int .u8 y.kind, .string y.frm, .string y.too, .string y.name, .int .u8 y.expr.kind, .string y.expr.rat, .string y.expr.name, .int .i64 y.expr.date, .slice eap elp ecp, .int .i64 y.date, .slice dap dlp dcp, .slice ap lenp capp] 29)).alloc (twoM (ByteArray.mk #[32]) (ByteArray.mk #[32, 101, 108, 115, 101, 32])) := ⟨_, rfl⟩
        have hVs : V.heap.size = v1.heap.size + 1 + 1 := by rw [hV]; simp
        have hbx : V.heap[v1.heap.size]? = some (.cells #[.int .u8 y.kind, .string y.frm, .string y.too, .string y.name, .int .u8 y.expr.kind, .string y.expr.rat, .string y.expr.name, .int .i64 y.expr.date, .slice eap elp ecp, .int .i64 y.date, .slice dap dlp dcp, .slice ap lenp capp] 29) := by rw [hV]; exact heap_two ..
        rw [← hV] at hcv
        have HCV := Lib.hid hcv
        have HBXV := Lib.hid hbx
        have hbw := hcat.env.lt
        have hbo := (Array.getElem?_eq_some_iff.1 hcat.obx).1
        have hbc := (Array.getElem?_eq_some_iff.1 hcat.cbx).1
        have hl0 : 0 ≤ (subN n d x.sub k).length := Nat.zero_le _
        simp only [List.length_append] at hqk
        have HPP := Lib.hid (put1 B b m _ p V hcv.env.out (by simp only [List.length_append]; omega) hcv.env.size)
        rw [hVs] at HPP
        have HV := Lib.hid hV
        clear hy hym hx hp hps hq hcb hcv hV hbx hcat hel HBV HBX
        have L0 : (0 : Int) ≤ (k : Int) := by omega
        have L1 : (k : Int) < (len : Int) := by omega
        have HK0 : Hid (k = 0 ∨ ¬ k = 0) := Lib.hid (by omega)
        go_wp2_with fail
        rw [← HV.out]
        with_reducible refine HPP.out.mono ?_
        rintro e v2 ⟨rfl, hio2, hok2⟩
        have HC2 := Lib.hid (HCV.out.step hio2 hok2)
        have hbx2 := ctbox_kept HBXV.out hok2 (by omega)
        have o0 := exCell HC2.out.obx 0
        have hc3 := HC2.out.below (own_below v2 (.cells #[.int .u8 y.kind, .string y.frm, .string y.too, .string y.name, .int .u8 y.expr.kind, .string y.expr.rat, .string y.expr.name, .int .i64 y.expr.date, .slice eap elp ecp, .int .i64 y.date, .slice dap dlp dcp, .slice ap lenp capp] 29))
        have HBR := Lib.hid (braces_of HI.out d (ByteArray.mk #[]) (by decide) [y] v2.heap.size 0 1 1 _ _ rfl (by omega) hc3.env (parts_one HX.out HC2.out.env.lt) (fun z hz => by rw [List.mem_singleton.1 hz]; exact HOY.out) (fun z hz => by rw [List.mem_singleton.1 hz]; exact HDY.out) hd1 (by
          show _ + (brT d [] [pcT n y (d + 1)]).length ≤ _
          simp only [List.length_append]; omega))
        obtain ⟨c0, c1, c2, c3, c4, c5, c6, c7, c8, c9, ca, cb⟩ := ctBox hbx2
        have HC3 := Lib.hid hc3
        clear hio2 hok2 hbx2 hc3 u0 u1 lk
        go_wp2_with fail
        with_reducible refine HBR.out.mono ?_
        rintro e v3 ⟨rfl, hio3, hok3⟩
        have HC4 := Lib.hid (CAt.cast (l' := l ++ (H ++ subN n d x.sub (k + 1))) (by rw [HT.out]; simp [List.append_assoc]) (HC3.out.step hio3 hok3))
        clear hio3 hok3 c0 c1 c2 c3 c4 c5 c6 c7 c8 c9 ca cb o0
        go_wp2_with fail
        go_roundw
        case rel => exact ⟨k + 1, hlt, by go_num, HC4.out⟩
        case measure => simp [intOf] <;> omega
    · have HE : Hid (subN n d x.sub k = Y) := HALL.out k (by rw [HLEN2.out]; omega)
      have HF : Hid (WrP B b m (l ++ (H ++ Y)) w (.returned (.tuple #[])) v1) := by
        have := HCA.out
        rw [HE.out] at this
        exact ⟨rfl, this.env.out, this.kept⟩
      clear hcat
      go_wp2_with fail
      go_end0
      exact HF.out

end Go.Proofs.YtijkefflpojmhaaDoor

namespace Go.Proofs.YtijkefflpojmhaaDoor
open Go.RowKit

set_option maxHeartbeats 2000000 in
set_option maxRecDepth 100000 in
theorem contr_7 {Wb : World} {B b n : Nat} {m : Value} (ih : ContrC Wb B b m n) (x : Ct) (hk : x.kind = 7) (cs : List Value) (d : Nat) (l : List UInt8) (w : World) (h : CtAt (n + 1) Wb cs x) (ho : OkC (n + 1) x) (hd : d + x.size ≤ 3000) (he : OutEnv Wb B b m l w) (hlen : l.length + (pcT (n + 1) x d).length ≤ 1000000000) :
    Calls Tryd.prog 20 #[.pointer (some ⟨b, 0, none⟩), .agg cs.toArray, .int .i64 (d : Int)] w (WrP B b m (l ++ pcT (n + 1) x d) w) := by
  obtain ⟨ea, el, ec, da, dl, dc, a, len, cap, rfl, hex, hds, hlen2, hsub⟩ := h
  have hcs : (ctCells x ea el ec da dl dc a len cap).toArray = #[.int .u8 7, .string x.frm, .string x.too, .string x.name, .int .u8 x.expr.kind, .string x.expr.rat, .string x.expr.name, .int .i64 x.expr.date, .slice ea el ec, .int .i64 x.date, .slice da dl dc, .slice a len cap] := by unfold ctCells; rw [hk]
  rw [hcs]
  obtain ⟨_, hns, hox, hdt, _, hday, hsok⟩ := ho
  obtain ⟨Y, hY⟩ : ∃ Y, Y = subT d (x.sub.map fun y => pcT n y (d + 1)) := ⟨_, rfl⟩
  obtain ⟨H, hH⟩ : ∃ H, H = headT (n + 1) x := ⟨_, rfl⟩
  have hpc : pcT (n + 1) x d = H ++ Y := by rw [pcT, if_neg (by omega), if_neg (by omega), if_neg (by omega), hY, hH]
  rw [hpc] at hlen ⊢
  rw [List.length_append] at hlen
  have hlen3 : len ≤ 2 := by rw [← hlen2, hns]; unfold nSub; split <;> (try split) <;> decide
  have HSUB := Lib.hid hsub
  have HSOK := Lib.hid hsok
  have HLE : Hid (∀ k, (subN n d x.sub k).length ≤ Y.length) := fun k => by rw [hY]; exact subN_le _ _ _ _
  have HALL : Hid (∀ k, x.sub.length ≤ k → subN n d x.sub k = Y) := fun k hk => by rw [hY]; exact subN_all _ _ _ _ hk
  have HDS : Hid (∀ y ∈ x.sub, d + 1 + y.size ≤ 3000) := fun y hy => by have := Ct.sub_size hy; omega
  have hxp := x.size_pos
  have hd1 : d ≤ 3000 := by omega
  have HLEN2 := Lib.hid hlen2
  have HI := Lib.hid ih
  have hc0 := CAt.start #[.int .u8 7, .string x.frm, .string x.too, .string x.name, .int .u8 x.expr.kind, .string x.expr.rat, .string x.expr.name, .int .i64 x.expr.date, .slice ea el ec, .int .i64 x.date, .slice da dl dc, .slice a len cap] he
  obtain ⟨W0, hW0⟩ : ∃ W0, W0 = (w.alloc (.cells #[.pointer (some ⟨b, 0, none⟩)] 47)).alloc (.cells #[.int .u8 7, .string x.frm, .string x.too, .string x.name, .int .u8 x.expr.kind, .string x.expr.rat, .string x.expr.name, .int .i64 x.expr.date, .slice ea el ec, .int .i64 x.date, .slice da dl dc, .slice a len cap] 29) := ⟨_, rfl⟩
  have hW0s : W0.heap.size = w.heap.size + 1 + 1 := by rw [hW0]; simp
  rw [← hW0] at hc0
  have HW0 := Lib.hid hW0
  have HC0 := Lib.hid hc0
  have hH2 : H = [99, 104, 111, 105, 99, 101, 32] ++ (qn x.name).data.toList ++ [32, 98, 121, 32] ++ (qn x.frm).data.toList := by rw [hH]; unfold headT; rw [if_neg (by omega), if_neg (by omega), if_neg (by omega), if_pos hk]
  have hHl : H.length = 7 + (qn x.name).size + 4 + (qn x.frm).size := by
    have h1 : (qn x.name).data.toList.length = (qn x.name).size := by simp
    have h2 : (qn x.frm).data.toList.length = (qn x.frm).size := by simp
    rw [hH2]; simp only [List.length_append, List.length_cons, List.length_nil, h1, h2]
  have HQ := Lib.hid (pqname_any x.name)
  have HR := Lib.hid (pqname_any x.frm)
  obtain ⟨q, hq⟩ : ∃ q, q = qn x.name := ⟨_, rfl⟩
  obtain ⟨r, hr⟩ : ∃ r, r = qn x.frm := ⟨_, rfl⟩
  rw [← hq] at HQ hH2 hHl
  rw [← hr] at HR hH2 hHl
  have hqz : q.data.toList.length = q.size := by simp
  have hrz : r.data.toList.length = r.size := by simp
  have HPB : Hid (l.length + ((ByteArray.mk #[99, 104, 111, 105, 99, 101, 32]).size + (q.size + ((ByteArray.mk #[32, 98, 121, 32]).size + r.size))) ≤ 140737488355328) := by show l.length + (7 + (q.size + (4 + r.size))) ≤ _; omega
  have HH2 := Lib.hid hH2
  have SB : ∀ W, CAt Wb B b m w #[.int .u8 7, .string x.frm, .string x.too, .string x.name, .int .u8 x.expr.kind, .string x.expr.rat, .string x.expr.name, .int .i64 x.expr.date, .slice ea el ec, .int .i64 x.date, .slice da dl dc, .slice a len cap] l W → W.cell? ⟨w.heap.size, 0, none⟩ = some (.pointer (some ⟨b, 0, none⟩)) ∧ W.cell? ⟨w.heap.size + 1, 3, none⟩ = some (.string x.name) ∧ W.cell? ⟨w.heap.size + 1, 1, none⟩ = some (.string x.frm) := fun W hW => ⟨exCell hW.obx 0, (ctBox hW.cbx).2.2.2.1, (ctBox hW.cbx).2.1⟩
  have HSB := Lib.hid SB
  have HSZ : Hid True := trivial
  have HC : Hid (CAt Wb B b m w #[.int .u8 7, .string x.frm, .string x.too, .string x.name, .int .u8 x.expr.kind, .string x.expr.rat, .string x.expr.name, .int .i64 x.expr.date, .slice ea el ec, .int .i64 x.date, .slice da dl dc, .slice a len cap] l W0.drew) := HC0.out.below ((Below.refl _ _).drew)
  obtain ⟨c0, c1, c2, c3, c4, c5, c6, c7, c8, c9, ca, cb⟩ := ctBox hc0.cbx
  have o0 := exCell hc0.obx 0
  clear ih hsub hsok hlen2 hY hpc hH hH2 hns hox hdt hday hcs hex hds hW0 hc0 hq hr SB
  go_enter Tryd.func20, Tryd.ntmps20
  go_wp2_with fail
  rw [← HW0.out]
  go_region_held3 (fun W => W.cell? ⟨w.heap.size, 0, none⟩ = some (.pointer (some ⟨b, 0, none⟩)) ∧ W.cell? ⟨w.heap.size + 1, 3, none⟩ = some (.string x.name) ∧ W.cell? ⟨w.heap.size + 1, 1, none⟩ = some (.string x.frm))
    ((first | with_reducible exact HSB.out _ HC.out | with_reducible exact HSB.out _ HC0.out | with_reducible exact HSB.out _ (HC.out.below (own_below _ _)) | with_reducible exact HSZ.out))
    ((first
      | (go_at_call 25
         first
           | (with_reducible refine (HQ.out _).mono ?_)
           | (with_reducible refine (HR.out _).mono ?_)
         rintro e u ⟨rfl, hb⟩
         have HC := Lib.hid (HC.out.below hb)
         clear hb)
      | (go_at_call 32
         with_reducible refine (put4 B b m l (ByteArray.mk #[99, 104, 111, 105, 99, 101, 32]) q (ByteArray.mk #[32, 98, 121, 32]) r _ HC.out.env.out HPB.out HC.out.env.size).mono ?_
         rintro e u ⟨rfl, hio, hok⟩
         have HC2 := Lib.hid (HC.out.step hio hok)
         have HSZ : Hid (u.cell? ⟨w.heap.size, 0, none⟩ = some (.pointer (some ⟨b, 0, none⟩)) ∧ u.cell? ⟨w.heap.size + 1, 3, none⟩ = some (.string x.name) ∧ u.cell? ⟨w.heap.size + 1, 1, none⟩ = some (.string x.frm)) := Lib.hid ⟨exCell HC2.out.obx 0, (ctBox HC2.out.cbx).2.2.2.1, (ctBox HC2.out.cbx).2.1⟩
         clear hio hok)))
  clear c0 c1 c2 c3 c4 c5 c6 c7 c8 c9 ca cb o0
  have HCE := Lib.hid (CAt.cast (l' := l ++ H) (by rw [HH2.out]; simp [List.append_assoc]) HC2.out)
  obtain ⟨c0, c1, c2, c3, c4, c5, c6, c7, c8, c9, ca, cb⟩ := ctBox HCE.out.cbx
  have o0 := exCell HCE.out.obx 0
  go_wp2_with fail
  go_loopw [119] (fun iv wr => ∃ k : Nat, k ≤ len ∧ iv = .int .i64 (k : Int) ∧ CAt Wb B b m w #[.int .u8 7, .string x.frm, .string x.too, .string x.name, .int .u8 x.expr.kind, .string x.expr.rat, .string x.expr.name, .int .i64 x.expr.date, .slice ea el ec, .int .i64 x.date, .slice da dl dc, .slice a len cap] (l ++ (H ++ subN n d x.sub k)) wr) (fun iv _ => len - (intOf iv).toNat)
  case atStart => exact ⟨0, Nat.zero_le _, rfl, by simpa [subN, subT] using HCE.out⟩
  case round =>
    clear c0 c1 c2 c3 c4 c5 c6 c7 c8 c9 ca cb o0
    obtain ⟨v1, rfl⟩ : ∃ w1 : World, w1 = wr := ⟨_, rfl⟩
    obtain ⟨k, hk, rfl, hcat⟩ := hrel
    have HCA := Lib.hid hcat
    have o0 := exCell hcat.obx 0
    by_cases hlt : k < len
    · have hlt2 : k < x.sub.length := by rw [HLEN2.out]; exact hlt
      rcases HSUB.out with h0 | ⟨g, o, ha, hg, hel⟩
      · omega
      · subst ha
        have HT := Lib.hid (subN_succ n d x.sub k hlt2)
        have hqk := HLE.out (k + 1)
        rw [HT.out] at hqk
        obtain ⟨y, hy, eap, elp, ecp, dap, dlp, dcp, ap, lenp, capp, ⟨e0, e1, e2, e3, e4, e5, e6, e7, e8, e9, ea_, eb_⟩, hx⟩ := (parts_old (B := B) (b := b) hcat.env.base hcat.env.old hg hel).elem (OutK.refl _ _ _) hlt2
        rw [← hy] at HT hqk
        have hym : y ∈ x.sub := by rw [hy]; exact List.getElem_mem _
        have HOY := Lib.hid (HSOK.out y hym)
        have HDY := Lib.hid (HDS.out y hym)
        have HX := Lib.hid hx
        have q0 : ((k : Int) == 0) = decide (k = 0) := by by_cases h : k = 0 <;> simp [h]
        obtain ⟨p, hp⟩ : ∃ p : ByteArray, p = if decide (k = 0) = true then ByteArray.mk #[32] else ByteArray.mk #[32, 101, 108, 115, 101, 32] := ⟨_, rfl⟩
        have hps : (if decide (k = 0) = true then [32] else [32, 101, 108, 115, 101, 32]) = p.data.toList := by rw [hp]; split <;> rfl
        rw [hps] at HT hqk
        have hpl : p.data.toList.length = p.size := by simp
        have u0 := ins_at (v1.alloc (.cells #[.int .u8 y.kind, .string y.frm, .string y.too, .string y.name, .int .u8 y.expr.kind, .string y.expr.rat, .string y.expr.name, .int .i64 y.expr.date, .slice eap elp ecp, .int .i64 y.date, .slice dap dlp dcp, .slice ap lenp capp] 29)) (ByteArray.mk #[32])
        have u1 := ins_atf (v1.alloc (.cells #[.int .u8 y.kind, .string y.frm, .string y.too, .string y.name, .int .u8 y.expr.kind, .string y.expr.rat, .string y.expr.name, .int .i64 y.expr.date, .slice eap elp ecp, .int .i64 y.date, .slice dap dlp dcp, .slice ap lenp capp] 29)) (ByteArray.mk #[32]) (ByteArray.mk #[32, 101, 108, 115, 101, 32])
        have lk := lok_two (alloc_at (v1.alloc (.cells #[.int .u8 y.kind, .string y.frm, .string y.too, .string y.name, .int .u8 y.expr.kind, .string y.expr.rat, .string y.expr.name, .int .i64 y.expr.date, .slice eap elp ecp, .int .i64 y.date, .slice dap dlp dcp, .slice ap lenp capp] 29)) (twoM (ByteArray.mk #[32]) (ByteArray.mk #[32, 101, 108, 115, 101, 32]))) (decide (k = 0))
        rw [← hp] at lk
        rw [World.size_alloc] at u0 u1 lk
        obtain ⟨q, hq⟩ : ∃ q, q = decide (k = 0) := ⟨_, rfl⟩
        rw [← hq] at q0 lk
        have hmm := @run_makeMap Tryd.prog
        have HBX := Lib.hid (alloc_at v1 (.cells #[.int .u8 y.kind, .string y.frm, .string y.too, .string y.name, .int .u8 y.expr.kind, .string y.expr.rat, .string y.expr.name, .int .i64 y.expr.date, .slice eap elp ecp, .int .i64 y.date, .slice dap dlp dcp, .slice ap lenp capp] 29))
        have hcb := HCA.out.below (own_below v1 (.cells #[.int .u8 y.kind, .string y.frm, .string y.too, .string y.name, .int .u8 y.expr.kind, .string y.expr.rat, .string y.expr.name, .int .i64 y.expr.date, .slice eap elp ecp, .int .i64 y.date, .slice dap dlp dcp, .slice ap lenp capp] 29))
        have HBV := Lib.hid (own_below (v1.alloc (.cells #[.int .u8 y.kind, .string y.frm, .string y.too, .string y.name, .int .u8 y.expr.kind, .string y.expr.rat, .string y.expr.name, .int .i64 y.expr.date, .slice eap elp ecp, .int .i64 y.date, .slice dap dlp dcp, .slice ap lenp capp] 29)) (twoM (ByteArray.mk #[32]) (ByteArray.mk #[32, 101, 108, 115, 101, 32])))
        have hcv := hcb.below HBV.out
        obtain ⟨V, hV⟩ : ∃ V, V = (v1.alloc (.cells #[.int .u8 y.kind, .string y.frm, .string y.too, .string y.name, .int .u8 y.expr.kind, .string y.expr.rat, .string y.expr.name, .int .i64 y.expr.date, .slice eap elp ecp, .int .i64 y.date, .slice dap dlp dcp, .slice ap lenp capp] 29)).alloc (twoM (ByteArray.mk #[32]) (ByteArray.mk #[32, 101, 108, 115, 101, 32])) := ⟨_, rfl⟩
        have hVs : V.heap.size = v1.heap.size + 1 + 1 := by rw [hV]; simp
        have hbx : V.heap[v1.heap.size]? = some (.cells #[.int .u8 y.kind, .string y.frm, .string y.too, .string y.name, .int .u8 y.expr.kind, .string y.expr.rat, .string y.expr.name, .int .i64 y.expr.date, .slice eap elp ecp, .int .i64 y.date, .slice dap dlp dcp, .slice ap lenp capp] 29) := by rw [hV]; exact heap_two ..
        rw [← hV] at hcv
        have HCV := Lib.hid hcv
        have HBXV := Lib.hid hbx
        have hbw := hcat.env.lt
        have hbo := (Array.getElem?_eq_some_iff.1 hcat.obx).1
        have hbc := (Array.getElem?_eq_some_iff.1 hcat.cbx).1
        have hl0 : 0 ≤ (subN n d x.sub k).length := Nat.zero_le _
        simp only [List.length_append] at hqk
        have HPP := Lib.hid (put1 B b m _ p V hcv.env.out (by simp only [List.length_append]; omega) hcv.env.size)
        rw [hVs] at HPP
        have HV := Lib.hid hV
        clear hy hym hx hp hps hq hcb hcv hV hbx hcat hel HBV HBX
        have L0 : (0 : Int) ≤ (k : Int) := by omega
        have L1 : (k : Int) < (len : Int) := by omega
        have HK0 : Hid (k = 0 ∨ ¬ k = 0) := Lib.hid (by omega)
        go_wp2_with fail
        rw [← HV.out]
        with_reducible refine HPP.out.mono ?_
        rintro e v2 ⟨rfl, hio2, hok2⟩
        have HC2 := Lib.hid (HCV.out.step hio2 hok2)
        have hbx2 := ctbox_kept HBXV.out hok2 (by omega)
        have o0 := exCell HC2.out.obx 0
        have hc3 := HC2.out.below (own_below v2 (.cells #[.int .u8 y.kind, .string y.frm, .string y.too, .string y.name, .int .u8 y.expr.kind, .string y.expr.rat, .string y.expr.name, .int .i64 y.expr.date, .slice eap elp ecp, .int .i64 y.date, .slice dap dlp dcp, .slice ap lenp capp] 29))
        have HBR := Lib.hid (braces_of HI.out d (ByteArray.mk #[]) (by decide) [y] v2.heap.size 0 1 1 _ _ rfl (by omega) hc3.env (parts_one HX.out HC2.out.env.lt) (fun z hz => by rw [List.mem_singleton.1 hz]; exact HOY.out) (fun z hz => by rw [List.mem_singleton.1 hz]; exact HDY.out) hd1 (by
          show _ + (brT d [] [pcT n y (d + 1)]).length ≤ _
          simp only [List.length_append]; omega))
        obtain ⟨c0, c1, c2, c3, c4, c5, c6, c7, c8, c9, ca, cb⟩ := ctBox hbx2
        have HC3 := Lib.hid hc3
        clear hio2 hok2 hbx2 hc3 u0 u1 lk
        go_wp2_with fail
        with_reducible refine HBR.out.mono ?_
        rintro e v3 ⟨rfl, hio3, hok3⟩
        have HC4 := Lib.hid (CAt.cast (l' := l ++ (H ++ subN n d x.sub (k + 1))) (by rw [HT.out]; simp [List.append_assoc]) (HC3.out.step hio3 hok3))
        clear hio3 hok3 c0 c1 c2 c3 c4 c5 c6 c7 c8 c9 ca cb o0
        go_wp2_with fail
        go_roundw
        case rel => exact ⟨k + 1, hlt, by go_num, HC4.out⟩
        case measure => simp [intOf] <;> omega
    · have HE : Hid (subN n d x.sub k = Y) := HALL.out k (by rw [HLEN2.out]; omega)
      have HF : Hid (WrP B b m (l ++ (H ++ Y)) w (.returned (.tuple #[])) v1) := by
        have := HCA.out
        rw [HE.out] at this
        exact ⟨rfl, this.env.out, this.kept⟩
      clear hcat
      go_wp2_with fail
      go_end0
      exact HF.out

end Go.Proofs.YtijkefflpojmhaaDoor
