/-
  novationlaw07.MoneyNames returns true. Condition: what the package-level variables hold.
-/
import Derived.Test.YtnikhbdjlipcbaaGreatDoorXa
namespace Go.Proofs.YtnikhbdjlipcbaaGreatDoor
open Go.RowKit Go.Shelf

set_option maxHeartbeats 1000000 in
set_option maxRecDepth 100000 in
theorem form_yes (s : ByteArray) (f : Int) (w : World) (HR : Hid (Ct w 11 #[.string s] (.tuple #[.int .i64 0, .string ⟨#[]⟩, .int .i64 f]))) :
    Calls Tryz.prog 16 #[.string s, .int .i64 f] w (RetBD w true) := by
  go_enter Tryz.func16, Tryz.ntmps16
  go_wp2_with fail
  refine (HR.out.use (Below.refl _ _)).mono ?_
  rintro e w1 ⟨rfl, b1⟩
  have B1 := Lib.hid b1
  clear b1
  go_wp2_with fail
  go_ret
  exact ⟨rfl, B1.out⟩
theorem form_at (l : List UInt8) (f : Int) (hl : l.length ≤ 1000) (h : readA unitOf l = (0, [], f)) : ∀ w, Env w → Calls Tryz.prog 16 #[.string ⟨l.toArray⟩, .int .i64 f] w (RetBD w true) := fun w hE =>
  form_yes _ f w (Lib.hid fun W hW => by
    have := mread_any ⟨l.toArray⟩ W (hE.below hW) (by rw [← data_len]; show l.length ≤ _; omega)
    rw [show (⟨l.toArray⟩ : ByteArray).data.toList = l from rfl, h] at this
    exact this)
theorem txt_of {l : List UInt8} {z : Int} (h : rdZ l = some z) : txtZ z = l := (rdZ_some h).symm
def SpN (total : Int) (n : Nat) (ws : List Int) : Prop :=
  ∀ W b, W.heap[b]? = some (.cells (Spl.ints ws).toArray 3 (0, 0)) → Calls Tryz.prog 9 #[.int .i64 total, .slice (some ⟨b, 0, none⟩) n n] W (Spl.NoSplit2 W)
theorem spN_of (total : Int) (n : Nat) (ws : List Int) (hl : ws.length = n) (hn : n ≤ 1000) (hb : Spl.Bad total ws) : Hid (SpN total n ws) := fun W b h =>
  Spl.split_bad b 0 n n total ws W hl (by omega) (heap_lt h) hb (by have := lies_heap h; rwa [hl] at this)
def SuN (n : Nat) (ws : List Int) (a f : Int) : Prop :=
  ∀ W b, W.heap[b]? = some (.cells (Spl.ints ws).toArray 3 (0, 0)) → Calls Tryz.prog 15 #[.slice (some ⟨b, 0, none⟩) n n] W fun e w' => e = .returned (.tuple #[.int .i64 a, .int .i64 f]) ∧ W = w'
theorem suN_of (n : Nat) (ws : List Int) (a f : Int) (hl : ws.length = n) (hn : n ≤ 10000) (h1 : Spl.sumN ws = a) (h2 : Spl.sumE ws = f) : Hid (SuN n ws a f) := fun W b h => by
  have := Spl.sum_go b 0 n n ws W hl (by omega) (by have := lies_heap h; rwa [hl] at this)
  unfold Spl.SumPost at this
  rwa [h1, h2] at this
theorem alloc_one (w : World) (o : Obj) : (w.alloc o).heap[w.heap.size]? = some o := World.alloc_heap_new w o
theorem made_lies (n : Nat) (W : World) : Spl.Lies (W.alloc (.cells (madeCells #[.int .i64 0] n) 3)) W.heap.size 0 n (Spl.fillL (fun _ => 0) n 0) := fun i hi => by
  rw [Nat.zero_add]
  have h := (Spl.fillL_made (fun _ => 0) n W 3).cell (i := i) (by rw [Spl.ints_length, Spl.fillL_length]; exact hi)
  rw [h, Spl.ints_get _ i (by rw [Spl.fillL_length]; exact hi)]

theorem RT_11258999068427_1 : ratT 11258999068427 1 = [49, 49, 50, 53, 56, 57, 57, 57, 48, 54, 56, 52, 50, 55] := by unfold ratT; rw [if_pos rfl]; exact txt_of (by decide)
theorem RK_11258999068427_1 : RatOK 11258999068427 1 := ⟨by decide, by decide, bigZ_lt (by decide), bigZ_one⟩
theorem TV_11258999068427_1 : touV 11258999068427 1 2 0 = (0, 14) := by
  unfold touV
  rw [show (11258999068427 : Int) * (10 ^ 2 : Nat) = 1125899906842700 from rfl, show bigZ (1125899906842700 : Int) = false from bigZ_lt (by decide)]
  rfl

theorem RT_281474976710656_25 : ratT 281474976710656 25 = [50, 56, 49, 52, 55, 52, 57, 55, 54, 55, 49, 48, 54, 53, 54, 47, 50, 53] := by
  unfold ratT
  rw [if_neg (by decide), txt_of (l := [50, 56, 49, 52, 55, 52, 57, 55, 54, 55, 49, 48, 54, 53, 54]) (z := 281474976710656) (by decide), txt_of (l := [50, 53]) (z := 25) (by decide)]; rfl
theorem RK_281474976710656_25 : RatOK 281474976710656 25 := ⟨by decide, by decide, bigZ_lt (by decide), bigZ_lt (by decide)⟩
theorem TV_281474976710656_25 : touV 281474976710656 25 2 0 = (1125899906842624, 0) := by
  unfold touV
  rw [show (281474976710656 : Int) * (10 ^ 2 : Nat) = 28147497671065600 from rfl, show bigZ (28147497671065600 : Int) = false from bigZ_lt (by decide)]
  rfl
theorem RT_back : ratT (ratN (-250) (10 ^ 2 : Nat)) (ratD (-250) (10 ^ 2 : Nat)) = [45, 53, 47, 50] := by
  rw [show ratN (-250) (10 ^ 2 : Nat) = -5 by decide, show ratD (-250) (10 ^ 2 : Nat) = 2 by decide]
  unfold ratT
  rw [if_neg (by decide), txt_of (l := [45, 53]) (z := -5) (by decide), txt_of (l := [50]) (z := 2) (by decide)]; rfl
theorem amt_top : amtB 1125899906842624 2 [69, 85, 82] = [49, 49, 50, 53, 56, 57, 57, 57, 48, 54, 56, 52, 50, 54, 46, 50, 52, 32, 69, 85, 82] := by
  unfold amtB
  rw [show (1125899906842624 : Int).natAbs / 10 ^ 2 = numL [49, 49, 50, 53, 56, 57, 57, 57, 48, 54, 56, 52, 50, 54] from by decide, dd_of (by decide) (by decide) (by decide)]
  rfl
theorem amt_0 : amtB 0 2 [69, 85, 82] = [48, 46, 48, 48, 32, 69, 85, 82] := by
  unfold amtB
  rw [show (0 : Int).natAbs / 10 ^ 2 = 0 from rfl, dec_1 0 (by decide)]
  rfl
theorem amt_5 : amtB (-5) 2 [69, 85, 82] = [45, 48, 46, 48, 53, 32, 69, 85, 82] := by
  unfold amtB
  rw [show (-5 : Int).natAbs / 10 ^ 2 = 0 from rfl, dec_1 0 (by decide)]
  rfl

set_option maxHeartbeats 16000000 in
set_option maxRecDepth 100000 in
theorem mnames_any (w : World) (hE : Env w) (hA : AwayEnv w) : Calls Tryz.prog 6 #[] w (RetBD w true) := by
  have U1 : Hid (Un ⟨#[75, 82, 87]⟩ 0 0) := un_some (u := 0) (by decide)
  have U2 : Hid (Un ⟨#[120, 45, 49, 95, 90]⟩ 2 0) := un_some (u := 2) (by decide)
  have U3 : Hid (Un ⟨#[49, 120]⟩ 0 2) := un_none (by decide)
  have T1 : Hid (∀ W, Below w.heap.size w W → Calls Tryz.prog 13 #[.string ⟨#[49]⟩, .string ⟨#[69, 85, 82]⟩, .int .u8 5] W (IiE W 0 2)) := fun W _ => tou_mode ⟨#[49]⟩ ⟨#[69, 85, 82]⟩ 5 _ (un_some (u := 2) (by decide)) (by decide) W
  have T2 : Hid (∀ W, Below w.heap.size w W → Calls Tryz.prog 13 #[.string ⟨#[50, 47, 52]⟩, .string ⟨#[69, 85, 82]⟩, .int .u8 0] W (IiE W 0 12)) := fun W _ => tou_form ⟨#[50, 47, 52]⟩ ⟨#[69, 85, 82]⟩ 0 2 (un_some (u := 2) (by decide)) (by decide) 12 (Lib.hid fun W' => by
    have := qrat_any ⟨#[50, 47, 52]⟩ W' (by decide)
    rwa [show chkR (⟨#[50, 47, 52]⟩ : ByteArray).data.toList = 12 by decide] at this) (by decide) W
  have T3 : Hid (∀ W, Below w.heap.size w W → Calls Tryz.prog 13 #[.string ⟨#[49, 49, 50, 53, 56, 57, 57, 57, 48, 54, 56, 52, 50, 54, 46, 50, 53]⟩, .string ⟨#[69, 85, 82]⟩, .int .u8 0] W (IiE W 0 12)) := fun W _ => tou_form ⟨#[49, 49, 50, 53, 56, 57, 57, 57, 48, 54, 56, 52, 50, 54, 46, 50, 53]⟩ ⟨#[69, 85, 82]⟩ 0 2 (un_some (u := 2) (by decide)) (by decide) 12 (Lib.hid fun W' => by
    have := qrat_any ⟨#[49, 49, 50, 53, 56, 57, 57, 57, 48, 54, 56, 52, 50, 54, 46, 50, 53]⟩ W' (by decide)
    rwa [show chkR (⟨#[49, 49, 50, 53, 56, 57, 57, 57, 48, 54, 56, 52, 50, 54, 46, 50, 53]⟩ : ByteArray).data.toList = 12 by decide] at this) (by decide) W
  have T4 : Hid (∀ W, Below w.heap.size w W → Calls Tryz.prog 13 #[.string ⟨#[49, 49, 50, 53, 56, 57, 57, 57, 48, 54, 56, 52, 50, 55]⟩, .string ⟨#[69, 85, 82]⟩, .int .u8 0] W (IiE W 0 14)) := fun W hW => by
    have := tou_ok ⟨#[49, 49, 50, 53, 56, 57, 57, 57, 48, 54, 56, 52, 50, 55]⟩ ⟨#[69, 85, 82]⟩ 11258999068427 1 2 0 W (hA.below hW) (by decide) (by decide) (by decide) RT_11258999068427_1.symm RK_11258999068427_1
    rwa [TV_11258999068427_1] at this
  have T5 : Hid (∀ W, Below w.heap.size w W → Calls Tryz.prog 13 #[.string ⟨#[50, 56, 49, 52, 55, 52, 57, 55, 54, 55, 49, 48, 54, 53, 54, 47, 50, 53]⟩, .string ⟨#[69, 85, 82]⟩, .int .u8 0] W (IiE W 1125899906842624 0)) := fun W hW => by
    have := tou_ok ⟨#[50, 56, 49, 52, 55, 52, 57, 55, 54, 55, 49, 48, 54, 53, 54, 47, 50, 53]⟩ ⟨#[69, 85, 82]⟩ 281474976710656 25 2 0 W (hA.below hW) (by decide) (by decide) (by decide) RT_281474976710656_25.symm RK_281474976710656_25
    rwa [TV_281474976710656_25] at this
  have F1 : Hid (∀ W, Below w.heap.size w W → Calls Tryz.prog 12 #[.int .i64 (-250), .string ⟨#[69, 85, 82]⟩] W (StE W ⟨#[45, 53, 47, 50]⟩ 0)) := fun W _ => by
    refine (fru_any (-250) ⟨#[69, 85, 82]⟩ W).mono fun e w' hp => ?_
    rcases hp with ⟨h1 | h1, _⟩ | ⟨u', h1, _, hp⟩
    · rw [show unitOf (⟨#[69, 85, 82]⟩ : ByteArray).data.toList = some 2 from unit_EUR] at h1; cases h1
    · exact absurd h1 (by decide)
    · rw [show unitOf (⟨#[69, 85, 82]⟩ : ByteArray).data.toList = some 2 from unit_EUR] at h1
      obtain rfl := Option.some.inj h1
      rw [RT_back] at hp
      exact hp
  have F2 : Hid (∀ W, Below w.heap.size w W → Calls Tryz.prog 12 #[.int .i64 1125899906842625, .string ⟨#[69, 85, 82]⟩] W (StE W ⟨#[]⟩ 2)) := fun W _ => by
    refine (fru_any 1125899906842625 ⟨#[69, 85, 82]⟩ W).mono fun e w' hp => ?_
    rcases hp with ⟨_, hp⟩ | ⟨u', _, h1, _⟩
    · exact hp
    · exact absurd h1 (by decide)
  have S1 : Hid (∀ W, Calls Tryz.prog 9 #[.int .i64 1, .slice none 0 0] W (Spl.NoSplit2 W)) := fun W => Spl.split_nil none 0 1 W
  have S2 : Hid (SpN 1 2 [0, 0]) := spN_of 1 2 [0, 0] rfl (by decide) (.inr (.inr (.inr (by decide))))
  have S3 : Hid (SpN 1 2 [1, -1]) := spN_of 1 2 [1, -1] rfl (by decide) (.inr (.inr (.inl ⟨1, by decide, by decide⟩)))
  have S4 : Hid (SpN 1 1 [4001]) := spN_of 1 1 [4001] rfl (by decide) (.inr (.inr (.inl ⟨0, by decide, by decide⟩)))
  have S5 : Hid (SpN 1125899906842625 1 [1]) := spN_of 1125899906842625 1 [1] rfl (by decide) (.inl (by decide))
  have S6 : Hid (∀ W : World, Calls Tryz.prog 9 #[.int .i64 1, .slice (some ⟨W.heap.size, 0, none⟩) 101 101] (W.alloc (.cells (madeCells #[.int .i64 0] 101) 3)) (Spl.NoSplit2 (W.alloc (.cells (madeCells #[.int .i64 0] 101) 3)))) := fun W => Spl.split_bad W.heap.size 0 101 101 1 (Spl.fillL (fun _ => 0) 101 0) _ (Spl.fillL_length _ _ _) (by decide) (by simp) (.inr (.inl (by rw [Spl.fillL_length]; decide))) (made_lies 101 W)
  have M1 : Hid (SuN 2 [1125899906842624, 1] 0 14) := suN_of 2 _ 0 14 rfl (by decide) (by decide) (by decide)
  have M2 : Hid (SuN 2 [1125899906842624, -1125899906842624] 0 0) := suN_of 2 _ 0 0 rfl (by decide) (by decide) (by decide)
  have M3 : Hid (SuN 1 [1125899906842625] 0 2) := suN_of 1 _ 0 2 rfl (by decide) (by decide) (by decide)
  have M4 : Hid (∀ W : World, Calls Tryz.prog 15 #[.slice (some ⟨W.heap.size, 0, none⟩) 5001 5001] (W.alloc (.cells (madeCells #[.int .i64 0] 5001) 3)) fun e w' => e = .returned (.tuple #[.int .i64 0, .int .i64 4]) ∧ (W.alloc (.cells (madeCells #[.int .i64 0] 5001) 3)) = w') := fun W => by
    have := Spl.sum_go W.heap.size 0 5001 5001 (Spl.fillL (fun _ => 0) 5001 0) _ (Spl.fillL_length _ _ _) (by decide) (made_lies 5001 W)
    have h := Spl.sum_long (Spl.fillL (fun _ => 0) 5001 0) (by rw [Spl.fillL_length]; decide)
    unfold Spl.SumPost at this
    rwa [h.1, h.2] at this
  have R0 : Hid (∀ W, Below w.heap.size w W → Calls Tryz.prog 16 #[.string ⟨#[45, 48, 46, 48, 48, 32, 69, 85, 82]⟩, .int .i64 12] W (RetBD W true)) := fun W hW => form_at [45, 48, 46, 48, 48, 32, 69, 85, 82] 12 (by decide) (by decide) W (hE.below hW)
  have R1 : Hid (∀ W, Below w.heap.size w W → Calls Tryz.prog 16 #[.string ⟨#[48, 48, 46, 49, 48, 32, 69, 85, 82]⟩, .int .i64 12] W (RetBD W true)) := fun W hW => form_at [48, 48, 46, 49, 48, 32, 69, 85, 82] 12 (by decide) (by decide) W (hE.below hW)
  have R2 : Hid (∀ W, Below w.heap.size w W → Calls Tryz.prog 16 #[.string ⟨#[49, 46, 53, 32, 69, 85, 82]⟩, .int .i64 12] W (RetBD W true)) := fun W hW => form_at [49, 46, 53, 32, 69, 85, 82] 12 (by decide) (by decide) W (hE.below hW)
  have R3 : Hid (∀ W, Below w.heap.size w W → Calls Tryz.prog 16 #[.string ⟨#[49, 53, 32, 69, 85, 82]⟩, .int .i64 12] W (RetBD W true)) := fun W hW => form_at [49, 53, 32, 69, 85, 82] 12 (by decide) (by decide) W (hE.below hW)
  have R4 : Hid (∀ W, Below w.heap.size w W → Calls Tryz.prog 16 #[.string ⟨#[49, 46, 32, 74, 80, 89]⟩, .int .i64 12] W (RetBD W true)) := fun W hW => form_at [49, 46, 32, 74, 80, 89] 12 (by decide) (by decide) W (hE.below hW)
  have R5 : Hid (∀ W, Below w.heap.size w W → Calls Tryz.prog 16 #[.string ⟨#[49, 46, 48, 48, 32, 32, 69, 85, 82]⟩, .int .i64 12] W (RetBD W true)) := fun W hW => form_at [49, 46, 48, 48, 32, 32, 69, 85, 82] 12 (by decide) (by decide) W (hE.below hW)
  have R6 : Hid (∀ W, Below w.heap.size w W → Calls Tryz.prog 16 #[.string ⟨#[]⟩, .int .i64 12] W (RetBD W true)) := fun W hW => form_at [] 12 (by decide) (by decide) W (hE.below hW)
  have R7 : Hid (∀ W, Below w.heap.size w W → Calls Tryz.prog 16 #[.string ⟨#[49, 46, 48, 48]⟩, .int .i64 12] W (RetBD W true)) := fun W hW => form_at [49, 46, 48, 48] 12 (by decide) (by decide) W (hE.below hW)
  have R8 : Hid (∀ W, Below w.heap.size w W → Calls Tryz.prog 16 #[.string ⟨#[46, 53, 48, 32, 69, 85, 82]⟩, .int .i64 12] W (RetBD W true)) := fun W hW => form_at [46, 53, 48, 32, 69, 85, 82] 12 (by decide) (by decide) W (hE.below hW)
  have R9 : Hid (∀ W, Below w.heap.size w W → Calls Tryz.prog 16 #[.string ⟨#[45, 32, 69, 85, 82]⟩, .int .i64 12] W (RetBD W true)) := fun W hW => form_at [45, 32, 69, 85, 82] 12 (by decide) (by decide) W (hE.below hW)
  have R10 : Hid (∀ W, Below w.heap.size w W → Calls Tryz.prog 16 #[.string ⟨#[49, 49, 50, 53, 56, 57, 57, 57, 48, 54, 56, 52, 50, 54, 46, 50, 53, 32, 69, 85, 82]⟩, .int .i64 14] W (RetBD W true)) := fun W hW => form_at [49, 49, 50, 53, 56, 57, 57, 57, 48, 54, 56, 52, 50, 54, 46, 50, 53, 32, 69, 85, 82] 14 (by decide) (by decide) W (hE.below hW)
  have R11 : Hid (∀ W, Below w.heap.size w W → Calls Tryz.prog 16 #[.string ⟨#[45, 57, 57, 57, 57, 57, 57, 57, 57, 57, 57, 57, 57, 57, 57, 57, 57, 57, 57, 57, 57, 57, 57, 57, 46, 57, 57, 32, 69, 85, 82]⟩, .int .i64 14] W (RetBD W true)) := fun W hW => form_at [45, 57, 57, 57, 57, 57, 57, 57, 57, 57, 57, 57, 57, 57, 57, 57, 57, 57, 57, 57, 57, 57, 57, 57, 46, 57, 57, 32, 69, 85, 82] 14 (by decide) (by decide) W (hE.below hW)
  have Q0 : Hid (∀ W, Below w.heap.size w W → Calls Tryz.prog 17 #[.int .i64 1125899906842624, .string ⟨#[69, 85, 82]⟩, .string ⟨#[49, 49, 50, 53, 56, 57, 57, 57, 48, 54, 56, 52, 50, 54, 46, 50, 52, 32, 69, 85, 82]⟩] W (RetBD W true)) := fun W hW => shows_at 1125899906842624 ⟨#[69, 85, 82]⟩ 2 _ W (hE.below hW) (by decide) unit_EUR (by decide) amt_top (by decide) (by decide)
  have Q1 : Hid (∀ W, Below w.heap.size w W → Calls Tryz.prog 17 #[.int .i64 0, .string ⟨#[69, 85, 82]⟩, .string ⟨#[48, 46, 48, 48, 32, 69, 85, 82]⟩] W (RetBD W true)) := fun W hW => shows_at 0 ⟨#[69, 85, 82]⟩ 2 _ W (hE.below hW) (by decide) unit_EUR (by decide) amt_0 (by decide) (by decide)
  have Q2 : Hid (∀ W, Below w.heap.size w W → Calls Tryz.prog 17 #[.int .i64 (-5), .string ⟨#[69, 85, 82]⟩, .string ⟨#[45, 48, 46, 48, 53, 32, 69, 85, 82]⟩] W (RetBD W true)) := fun W hW => shows_at (-5) ⟨#[69, 85, 82]⟩ 2 _ W (hE.below hW) (by decide) unit_EUR (by decide) amt_5 (by decide) (by decide)
  have AL : Hid (AlY w) := alY hE hA
  have hmk1 : ∀ W, (Instr.makeSlice 22 (.int .i64 101) (.int .i64 101)).run Tryz.prog W = .ok (.slice (some ⟨W.heap.size, 0, none⟩) 101 101) (W.alloc (.cells (madeCells #[.int .i64 0] 101) 3)) := fun W => run_make_row' (P := Tryz.prog) 22 3 (.int .i64 0) 8 Tryz.underlying22 Spl.infoI rfl .i64 .i64 101 (by decide) (by decide) W
  have hmk2 : ∀ W, (Instr.makeSlice 22 (.int .i64 5001) (.int .i64 5001)).run Tryz.prog W = .ok (.slice (some ⟨W.heap.size, 0, none⟩) 5001 5001) (W.alloc (.cells (madeCells #[.int .i64 0] 5001) 3)) := fun W => run_make_row' (P := Tryz.prog) 22 3 (.int .i64 0) 8 Tryz.underlying22 Spl.infoI rfl .i64 .i64 5001 (by decide) (by decide) W
  clear hE hA
  go_enter Tryz.func6, Tryz.ntmps6
  go_wp2_with fail
  refine (U1.out _).mono ?_
  rintro e w1 ⟨rfl, b1⟩
  have B1 := Lib.hid b1
  clear b1
  go_wp2_with fail
  refine (U2.out _).mono ?_
  rintro e w2 ⟨rfl, b2⟩
  have B2 := Lib.hid (B1.out.trans (b2.mono B1.out.size))
  clear b2
  go_wp2_with fail
  refine (U3.out _).mono ?_
  rintro e w3 ⟨rfl, b3⟩
  have B3 := Lib.hid (B2.out.trans (b3.mono B2.out.size))
  clear b3
  go_wp2_with fail
  refine (T1.out _ (B3.out)).mono ?_
  rintro e w4 ⟨rfl, b4⟩
  have B4 := Lib.hid (B3.out.trans (b4.mono B3.out.size))
  clear b4
  go_wp2_with fail
  refine (T2.out _ (B4.out)).mono ?_
  rintro e w5 ⟨rfl, b5⟩
  have B5 := Lib.hid (B4.out.trans (b5.mono B4.out.size))
  clear b5
  go_wp2_with fail
  refine (T3.out _ (B5.out)).mono ?_
  rintro e w6 ⟨rfl, b6⟩
  have B6 := Lib.hid (B5.out.trans (b6.mono B5.out.size))
  clear b6
  go_wp2_with fail
  refine (T4.out _ (B6.out)).mono ?_
  rintro e w7 ⟨rfl, b7⟩
  have B7 := Lib.hid (B6.out.trans (b7.mono B6.out.size))
  clear b7
  go_wp2_with fail
  refine (T5.out _ (B7.out)).mono ?_
  rintro e w8 ⟨rfl, b8⟩
  have B8 := Lib.hid (B7.out.trans (b8.mono B7.out.size))
  clear b8
  go_wp2_with fail
  refine (F1.out _ (B8.out)).mono ?_
  rintro e w9 ⟨rfl, b9⟩
  have B9 := Lib.hid (B8.out.trans (b9.mono B8.out.size))
  clear b9
  go_wp2_with fail
  refine (F2.out _ (B9.out)).mono ?_
  rintro e w10 ⟨rfl, b10⟩
  have B10 := Lib.hid (B9.out.trans (b10.mono B9.out.size))
  clear b10
  go_wp2_with fail
  refine (S1.out _).mono ?_
  rintro e w11 ⟨rfl, b11⟩
  have B11 := Lib.hid (B10.out.trans (b11.mono B10.out.size))
  clear b11
  go_wp2_with fail
  refine (S2.out _ w11.heap.size (alloc_one _ _)).mono ?_
  rintro e w12 ⟨rfl, b12⟩
  have B12 := Lib.hid (B11.out.trans (((own_below w11 _).trans (b12.mono (own_below w11 _).size)).mono B11.out.size))
  clear b12
  go_wp2_with fail
  refine (S3.out _ w12.heap.size (alloc_one _ _)).mono ?_
  rintro e w13 ⟨rfl, b13⟩
  have B13 := Lib.hid (B12.out.trans (((own_below w12 _).trans (b13.mono (own_below w12 _).size)).mono B12.out.size))
  clear b13
  go_wp2_with fail
  refine (S4.out _ w13.heap.size (alloc_one _ _)).mono ?_
  rintro e w14 ⟨rfl, b14⟩
  have B14 := Lib.hid (B13.out.trans (((own_below w13 _).trans (b14.mono (own_below w13 _).size)).mono B13.out.size))
  clear b14
  go_wp2_with fail
  refine (S5.out _ w14.heap.size (alloc_one _ _)).mono ?_
  rintro e w15 ⟨rfl, b15⟩
  have B15 := Lib.hid (B14.out.trans (((own_below w14 _).trans (b15.mono (own_below w14 _).size)).mono B14.out.size))
  clear b15
  go_wp2_with fail
  refine (S6.out w15).mono ?_
  rintro e w16 ⟨rfl, b16⟩
  have B16 := Lib.hid (B15.out.trans (((own_below w15 _).trans (b16.mono (own_below w15 _).size)).mono B15.out.size))
  clear b16
  go_wp2_with fail
  refine (M1.out _ w16.heap.size (alloc_one _ _)).mono ?_
  rintro e w17 ⟨rfl, hw17⟩
  have B17 : Hid (Below w.heap.size w w17) := by rw [← hw17]; exact B16.out.trans ((own_below w16 _).mono B16.out.size)
  clear hw17
  go_wp2_with fail
  refine (M2.out _ w17.heap.size (alloc_one _ _)).mono ?_
  rintro e w18 ⟨rfl, hw18⟩
  have B18 : Hid (Below w.heap.size w w18) := by rw [← hw18]; exact B17.out.trans ((own_below w17 _).mono B17.out.size)
  clear hw18
  go_wp2_with fail
  refine (M3.out _ w18.heap.size (alloc_one _ _)).mono ?_
  rintro e w19 ⟨rfl, hw19⟩
  have B19 : Hid (Below w.heap.size w w19) := by rw [← hw19]; exact B18.out.trans ((own_below w18 _).mono B18.out.size)
  clear hw19
  go_wp2_with fail
  refine (M4.out w19).mono ?_
  rintro e w20 ⟨rfl, hw20⟩
  have B20 : Hid (Below w.heap.size w w20) := by rw [← hw20]; exact B19.out.trans ((own_below w19 _).mono B19.out.size)
  clear hw20
  go_wp2_with fail
  refine (R0.out _ (B20.out)).mono ?_
  rintro e w21 ⟨rfl, b21⟩
  have B21 := Lib.hid (B20.out.trans (b21.mono B20.out.size))
  clear b21
  go_wp2_with fail
  refine (R1.out _ (B21.out)).mono ?_
  rintro e w22 ⟨rfl, b22⟩
  have B22 := Lib.hid (B21.out.trans (b22.mono B21.out.size))
  clear b22
  go_wp2_with fail
  refine (R2.out _ (B22.out)).mono ?_
  rintro e w23 ⟨rfl, b23⟩
  have B23 := Lib.hid (B22.out.trans (b23.mono B22.out.size))
  clear b23
  go_wp2_with fail
  refine (R3.out _ (B23.out)).mono ?_
  rintro e w24 ⟨rfl, b24⟩
  have B24 := Lib.hid (B23.out.trans (b24.mono B23.out.size))
  clear b24
  go_wp2_with fail
  refine (R4.out _ (B24.out)).mono ?_
  rintro e w25 ⟨rfl, b25⟩
  have B25 := Lib.hid (B24.out.trans (b25.mono B24.out.size))
  clear b25
  go_wp2_with fail
  refine (R5.out _ (B25.out)).mono ?_
  rintro e w26 ⟨rfl, b26⟩
  have B26 := Lib.hid (B25.out.trans (b26.mono B25.out.size))
  clear b26
  go_wp2_with fail
  refine (R6.out _ (B26.out)).mono ?_
  rintro e w27 ⟨rfl, b27⟩
  have B27 := Lib.hid (B26.out.trans (b27.mono B26.out.size))
  clear b27
  go_wp2_with fail
  refine (R7.out _ (B27.out)).mono ?_
  rintro e w28 ⟨rfl, b28⟩
  have B28 := Lib.hid (B27.out.trans (b28.mono B27.out.size))
  clear b28
  go_wp2_with fail
  refine (R8.out _ (B28.out)).mono ?_
  rintro e w29 ⟨rfl, b29⟩
  have B29 := Lib.hid (B28.out.trans (b29.mono B28.out.size))
  clear b29
  go_wp2_with fail
  refine (R9.out _ (B29.out)).mono ?_
  rintro e w30 ⟨rfl, b30⟩
  have B30 := Lib.hid (B29.out.trans (b30.mono B29.out.size))
  clear b30
  go_wp2_with fail
  refine (R10.out _ (B30.out)).mono ?_
  rintro e w31 ⟨rfl, b31⟩
  have B31 := Lib.hid (B30.out.trans (b31.mono B30.out.size))
  clear b31
  go_wp2_with fail
  refine (R11.out _ (B31.out)).mono ?_
  rintro e w32 ⟨rfl, b32⟩
  have B32 := Lib.hid (B31.out.trans (b32.mono B31.out.size))
  clear b32
  go_wp2_with fail
  refine (Q0.out _ (B32.out)).mono ?_
  rintro e w33 ⟨rfl, b33⟩
  have B33 := Lib.hid (B32.out.trans (b33.mono B32.out.size))
  clear b33
  go_wp2_with fail
  refine (Q1.out _ (B33.out)).mono ?_
  rintro e w34 ⟨rfl, b34⟩
  have B34 := Lib.hid (B33.out.trans (b34.mono B33.out.size))
  clear b34
  go_wp2_with fail
  refine (Q2.out _ (B34.out)).mono ?_
  rintro e w35 ⟨rfl, b35⟩
  have B35 := Lib.hid (B34.out.trans (b35.mono B34.out.size))
  clear b35
  go_wp2_with fail
  refine (AL.out _ (B35.out)).mono ?_
  rintro e w36 ⟨rfl, b36⟩
  have B36 := Lib.hid (B35.out.trans (b36.mono B35.out.size))
  clear b36
  go_wp2_with fail
  go_ret
  exact ⟨rfl, B36.out⟩


end Go.Proofs.YtnikhbdjlipcbaaGreatDoor
