/-
  novationlaw07's alive. Condition: what the package-level variables hold. novationlaw07's alive returns true. Condition: what the package-level variables hold.
-/
import Derived.Test.YtnikhbdjlipcbaaGreatDoorVz
import Derived.Test.YtnikhbdjlipcbaaGreatDoorWa
import Derived.Test.YtnikhbdjlipcbaaGreatDoorWh
namespace Go.Proofs.YtnikhbdjlipcbaaGreatDoor
open Go.RowKit Go.Shelf

set_option maxHeartbeats 1000000 in
set_option maxRecDepth 100000 in
theorem splits_yes (total : Int) (b d n c c2 : Nat) (l : List Int) (w : World) (HS : Hid (∀ W, Below w.heap.size w W → Calls Tryz.prog 9 #[.int .i64 total, .slice (some ⟨b, 0, none⟩) n c] W (Spl.SplitPost W n l)))
    (hl : l.length = n) (hn : n ≤ 100) (hd : d < w.heap.size) (hw : Spl.Lies w d 0 n l) :
    Calls Tryz.prog 22 #[.int .i64 total, .slice (some ⟨b, 0, none⟩) n c, .slice (some ⟨d, 0, none⟩) n c2] w (RetBD w true) := by
  have HL := Lib.hid hl
  have HD := Lib.hid hd
  have HW := Lib.hid hw
  clear hl hd hw
  go_enter Tryz.func22, Tryz.ntmps22
  go_wp2_with fail
  refine (HS.out _ (Below.refl _ _)).mono ?_
  rintro e w1 ⟨g, cap, rfl, hg, hcap, hr, hb⟩
  have h1 : ∀ i, i < n → w1.cell? ⟨g, 0 + i, none⟩ = some (.int .i64 (l[i]?.getD 0)) := fun i hi => by
    rw [Nat.zero_add, hr.cell (by rw [Spl.ints_length, HL.out]; exact hi), Spl.ints_get l i (by rw [HL.out]; exact hi)]
  have h2 : ∀ i, i < n → w1.cell? ⟨d, 0 + i, none⟩ = some (.int .i64 (l[i]?.getD 0)) := fun i hi => ((bcell hb).1 _ _ HD.out).trans (HW.out i hi)
  have hse := Spl.same_eq g 0 d 0 cap c2 n l l w1 HL.out HL.out (by omega) h1 h2
  rw [show (l == l) = true by simp] at hse
  have HSE := Lib.hid hse
  have B1 := Lib.hid hb
  clear h1 h2 hse hb hr hg hcap
  go_wp2_with fail
  refine HSE.out.mono ?_
  rintro e w2 ⟨rfl, q, rfl⟩
  go_wp2_with fail
  go_ret
  exact ⟨rfl, below_drewN B1.out q⟩
set_option maxHeartbeats 1000000 in
set_option maxRecDepth 100000 in
theorem shows_yes (n : Int) (c want : ByteArray) (w : World) (HS : Hid (Ct w 10 #[.int .i64 n, .string c] (.tuple #[.string want, .int .i64 0])))
    (HR : Hid (Ct w 11 #[.string want] (.tuple #[.int .i64 n, .string c, .int .i64 0]))) :
    Calls Tryz.prog 17 #[.int .i64 n, .string c, .string want] w (RetBD w true) := by
  go_enter Tryz.func17, Tryz.ntmps17
  go_wp2_with fail
  refine (HS.out.use (Below.refl _ _)).mono ?_
  rintro e w1 ⟨rfl, b1⟩
  have B1 := Lib.hid b1
  clear b1
  go_wp2_with fail
  refine (HR.out.use B1.out).mono ?_
  rintro e w2 ⟨rfl, b2⟩
  have B2 := Lib.hid (B1.out.trans (b2.mono B1.out.size))
  clear b2
  go_wp2_with fail
  go_ret
  exact ⟨rfl, B2.out⟩
theorem dec_1 (d : Nat) (h : d < 10) : Lib.decDigits d = [UInt8.ofNat (48 + d)] := by rw [Lib.decDigits, dif_pos h]
theorem dec_2 (d : Nat) (h : 10 ≤ d) (h2 : d < 100) : Lib.decDigits d = [UInt8.ofNat (48 + d / 10), UInt8.ofNat (48 + d % 10)] := by rw [Lib.decDigits, dif_neg (by omega), dec_1 _ (by omega)]; rfl
/-- What shows asks, at any amount. -/
theorem shows_at (n : Int) (c : ByteArray) (u : Nat) (want : List UInt8) (w : World) (hE : Env w) (hc : c.size ≤ 1000) (hu : unitOf c.data.toList = some u) (ha : amtOK n = true) (hw : amtB n u c.data.toList = want) (hl : want.length ≤ 1000)
    (hr : readA unitOf want = (n, c.data.toList, 0)) :
    Calls Tryz.prog 17 #[.int .i64 n, .string c, .string ⟨want.toArray⟩] w (RetBD w true) := by
  refine shows_yes n c _ w (Lib.hid fun W hW => ?_) (Lib.hid fun W hW => ?_)
  · refine (mshow_any n c W (hE.below hW) (by omega)).mono fun e w' hp => ?_
    rcases hp with ⟨h1 | h1, _⟩ | ⟨u', h1, _, hp⟩
    · rw [hu] at h1; cases h1
    · rw [ha] at h1; cases h1
    · rw [hu] at h1
      obtain rfl := Option.some.inj h1
      rw [hw] at hp
      exact hp
  · refine (mread_any ⟨want.toArray⟩ W (hE.below hW) (by rw [← data_len]; simpa using by omega)).mono fun e w' hp => ?_
    have e1 : (⟨want.toArray⟩ : ByteArray).data.toList = want := rfl
    rw [e1, hr] at hp
    rw [show c = ⟨c.data.toList.toArray⟩ from rfl]
    exact hp


end Go.Proofs.YtnikhbdjlipcbaaGreatDoor

namespace Go.Proofs.YtnikhbdjlipcbaaGreatDoor
open Go.RowKit Go.Shelf

theorem lies_heap {W : World} {b : Nat} {l : List Int} {t : TypeId} (h : W.heap[b]? = some (.cells (Spl.ints l).toArray t (0, 0))) : Spl.Lies W b 0 l.length l := fun i hi => by
  rw [Nat.zero_add]
  refine heap_cell h i _ ?_
  rw [List.getElem?_toArray]
  exact Spl.ints_get l i hi
def SpY (total : Int) (ws want : List Int) : Prop :=
  ∀ W b d, W.heap[b]? = some (.cells (Spl.ints ws).toArray 3 (0, 0)) → W.heap[d]? = some (.cells (Spl.ints want).toArray 3 (0, 0)) → Calls Tryz.prog 22 #[.int .i64 total, .slice (some ⟨b, 0, none⟩) 3 3, .slice (some ⟨d, 0, none⟩) 3 3] W (RetBD W true)
theorem spY_pos (size : Int) (ws want : List Int) (h3 : ws.length = 3) (hw3 : want.length = 3) (hg : Spl.Good size ws) (hp : Spl.parts size ws = want) : Hid (SpY size ws want) := fun W b d hb hd =>
  splits_yes size b d 3 3 3 want W (Lib.hid fun W' hW' => by
    have := Spl.split_pos b 0 3 3 size ws W' h3 (heap_lt (heap_below hb hW')) hg (by have := lies_heap (heap_below hb hW'); rwa [h3] at this)
    rwa [hp] at this) hw3 (by omega) (heap_lt hd) (by have := lies_heap hd; rwa [hw3] at this)
theorem spY_neg (size : Int) (ws want : List Int) (h3 : ws.length = 3) (hw3 : want.length = 3) (hg : Spl.Good size ws) (h0 : 0 < size) (hp : ((Spl.parts size ws).map fun x => -x) = want) : Hid (SpY (-size) ws want) := fun W b d hb hd =>
  splits_yes (-size) b d 3 3 3 want W (Lib.hid fun W' hW' => by
    have := Spl.split_neg b 0 3 3 size ws W' h3 (heap_lt (heap_below hb hW')) hg h0 (by have := lies_heap (heap_below hb hW'); rwa [h3] at this)
    rwa [hp] at this) hw3 (by omega) (heap_lt hd) (by have := lies_heap hd; rwa [hw3] at this)
theorem good3 (size a b c : Int) (h0 : 0 ≤ size) (h1 : size ≤ 1000) (ha : 0 ≤ a ∧ a ≤ 4000) (hb : 0 ≤ b ∧ b ≤ 4000) (hc : 0 ≤ c ∧ c ≤ 4000) (hs : 0 < a + b + c) : Spl.Good size [a, b, c] :=
  ⟨h0, by omega, by simp, fun i hi => by
    have hi' : i < 3 := hi
    have : i = 0 ∨ i = 1 ∨ i = 2 := by omega
    rcases this with rfl | rfl | rfl
    · exact ha
    · exact hb
    · exact hc, by show 0 < 0 + a + b + c; omega⟩
theorem alloc_two (w : World) (o1 o2 : Obj) : ((w.alloc o1).alloc o2).heap[w.heap.size + 1]? = some o2 := by
  have h := World.alloc_heap_new (w.alloc o1) o2
  rwa [World.size_alloc] at h
theorem txtN_small {d : Nat} (h : d < 10) : txtN d = [dgB d] := by unfold txtN; rw [decN_small h]; rfl
theorem ratOK_13 : RatOK 1 3 := ⟨by decide, by decide, bigZ_one, bigZ_lt (by decide)⟩
theorem ratT_13 : ratT 1 3 = [49, 47, 51] := by
  have h1 : txtZ (1 : Int) = [49] := txtZ_1
  have h3 : txtZ (3 : Int) = [51] := by
    have : txtZ ((3 : Nat) : Int) = txtN 3 := txtZ_pos 3
    rw [show (3 : Int) = ((3 : Nat) : Int) from rfl, this, txtN_small (by decide)]; rfl
  unfold ratT
  rw [if_neg (by decide), h1, h3]; rfl
theorem big100 : bigZ (100 : Int) = false := bigZ_lt (by decide)
theorem touV_half : touV 1 3 2 2 = (33, 0) := by
  unfold touV
  rw [show (1 : Int) * (10 ^ 2 : Nat) = 100 from rfl, big100]
  rfl
theorem touV_up : touV 1 3 2 1 = (34, 0) := by
  unfold touV
  rw [show (1 : Int) * (10 ^ 2 : Nat) = 100 from rfl, big100]
  rfl
theorem unit_EUR : unitOf [69, 85, 82] = some 2 := by decide
theorem unit_JPY : unitOf [74, 80, 89] = some 0 := by decide
theorem unit_KWD : unitOf [75, 87, 68] = some 3 := by decide
theorem amt_1 : amtB (-1205) 2 [69, 85, 82] = [45, 49, 50, 46, 48, 53, 32, 69, 85, 82] := by
  unfold amtB
  rw [show (-1205 : Int).natAbs / 10 ^ 2 = 12 from rfl, dec_2 12 (by decide) (by decide)]
  rfl
theorem amt_2 : amtB 7 0 [74, 80, 89] = [55, 32, 74, 80, 89] := by
  unfold amtB
  rw [show (7 : Int).natAbs / 10 ^ 0 = 7 from rfl, dec_1 7 (by decide)]
  rfl
theorem amt_3 : amtB 7 3 [75, 87, 68] = [48, 46, 48, 48, 55, 32, 75, 87, 68] := by
  unfold amtB
  rw [show (7 : Int).natAbs / 10 ^ 3 = 0 from rfl, dec_1 0 (by decide)]
  rfl
set_option maxHeartbeats 4000000 in
set_option maxRecDepth 100000 in
theorem alive_any (w : World) (hE : Env w) (hA : AwayEnv w) : Calls Tryz.prog 8 #[] w (RetBD w true) := by
  have T1 : Hid (∀ W, Below w.heap.size w W → Calls Tryz.prog 13 #[.string ⟨#[49, 47, 51]⟩, .string ⟨#[69, 85, 82]⟩, .int .u8 2] W (IiE W 33 0)) := fun W hW => by
    have := tou_ok ⟨#[49, 47, 51]⟩ ⟨#[69, 85, 82]⟩ 1 3 2 2 W (hA.below hW) (by decide) unit_EUR (by decide) ratT_13.symm ratOK_13
    rwa [touV_half] at this
  have T2 : Hid (∀ W, Below w.heap.size w W → Calls Tryz.prog 13 #[.string ⟨#[49, 47, 51]⟩, .string ⟨#[69, 85, 82]⟩, .int .u8 1] W (IiE W 34 0)) := fun W hW => by
    have := tou_ok ⟨#[49, 47, 51]⟩ ⟨#[69, 85, 82]⟩ 1 3 2 1 W (hA.below hW) (by decide) unit_EUR (by decide) ratT_13.symm ratOK_13
    rwa [touV_up] at this
  have S1 : Hid (SpY 100 [1, 1, 1] [34, 33, 33]) := spY_pos 100 _ _ rfl rfl (good3 _ _ _ _ (by decide) (by decide) (by decide) (by decide) (by decide) (by decide)) (by decide)
  have S2 : Hid (SpY (-100) [1, 1, 1] [-34, -33, -33]) := spY_neg 100 _ _ rfl rfl (good3 _ _ _ _ (by decide) (by decide) (by decide) (by decide) (by decide) (by decide)) (by decide) (by decide)
  have S3 : Hid (SpY 10 [3, 0, 4] [4, 0, 6]) := spY_pos 10 _ _ rfl rfl (good3 _ _ _ _ (by decide) (by decide) (by decide) (by decide) (by decide) (by decide)) (by decide)
  have Q1 : Hid (∀ W, Below w.heap.size w W → Calls Tryz.prog 17 #[.int .i64 (-1205), .string ⟨#[69, 85, 82]⟩, .string ⟨#[45, 49, 50, 46, 48, 53, 32, 69, 85, 82]⟩] W (RetBD W true)) := fun W hW =>
    shows_at (-1205) ⟨#[69, 85, 82]⟩ 2 _ W (hE.below hW) (by decide) unit_EUR (by decide) amt_1 (by decide) (by decide)
  have Q2 : Hid (∀ W, Below w.heap.size w W → Calls Tryz.prog 17 #[.int .i64 7, .string ⟨#[74, 80, 89]⟩, .string ⟨#[55, 32, 74, 80, 89]⟩] W (RetBD W true)) := fun W hW =>
    shows_at 7 ⟨#[74, 80, 89]⟩ 0 _ W (hE.below hW) (by decide) unit_JPY (by decide) amt_2 (by decide) (by decide)
  have Q3 : Hid (∀ W, Below w.heap.size w W → Calls Tryz.prog 17 #[.int .i64 7, .string ⟨#[75, 87, 68]⟩, .string ⟨#[48, 46, 48, 48, 55, 32, 75, 87, 68]⟩] W (RetBD W true)) := fun W hW =>
    shows_at 7 ⟨#[75, 87, 68]⟩ 3 _ W (hE.below hW) (by decide) unit_KWD (by decide) amt_3 (by decide) (by decide)
  clear hE hA
  go_enter Tryz.func8, Tryz.ntmps8
  go_wp2_with fail
  refine (T1.out _ (Below.refl _ _)).mono ?_
  rintro e w1 ⟨rfl, b1⟩
  have B1 := Lib.hid b1
  clear b1
  go_wp2_with fail
  refine (T2.out _ B1.out).mono ?_
  rintro e w2 ⟨rfl, b2⟩
  have B2 := Lib.hid (B1.out.trans (b2.mono B1.out.size))
  clear b2
  go_wp2_with fail
  refine (S1.out _ w2.heap.size (w2.heap.size + 1) (heap_two _ _ _) (alloc_two _ _ _)).mono ?_
  rintro e w3 ⟨rfl, b3⟩
  have B3 := Lib.hid (B2.out.trans (((own_two w2 _ _).trans (b3.mono (own_two w2 _ _).size)).mono B2.out.size))
  clear b3
  go_wp2_with fail
  refine (S2.out _ w3.heap.size (w3.heap.size + 1) (heap_two _ _ _) (alloc_two _ _ _)).mono ?_
  rintro e w4 ⟨rfl, b4⟩
  have B4 := Lib.hid (B3.out.trans (((own_two w3 _ _).trans (b4.mono (own_two w3 _ _).size)).mono B3.out.size))
  clear b4
  go_wp2_with fail
  refine (S3.out _ w4.heap.size (w4.heap.size + 1) (heap_two _ _ _) (alloc_two _ _ _)).mono ?_
  rintro e w5 ⟨rfl, b5⟩
  have B5 := Lib.hid (B4.out.trans (((own_two w4 _ _).trans (b5.mono (own_two w4 _ _).size)).mono B4.out.size))
  clear b5
  go_wp2_with fail
  refine (Q1.out _ B5.out).mono ?_
  rintro e w6 ⟨rfl, b6⟩
  have B6 := Lib.hid (B5.out.trans (b6.mono B5.out.size))
  clear b6
  go_wp2_with fail
  refine (Q2.out _ B6.out).mono ?_
  rintro e w7 ⟨rfl, b7⟩
  have B7 := Lib.hid (B6.out.trans (b7.mono B6.out.size))
  clear b7
  go_wp2_with fail
  refine (Q3.out _ B7.out).mono ?_
  rintro e w8 ⟨rfl, b8⟩
  have B8 := Lib.hid (B7.out.trans (b8.mono B7.out.size))
  clear b8
  go_wp2_with fail
  go_ret
  exact ⟨rfl, B8.out⟩


end Go.Proofs.YtnikhbdjlipcbaaGreatDoor
