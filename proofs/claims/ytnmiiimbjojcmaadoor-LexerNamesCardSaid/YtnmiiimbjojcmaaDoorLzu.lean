/-
  The bytes of LexerNames; what its last calls return. No condition.
-/
import Derived.Test.YtnmiiimbjojcmaaDoorLzm
import Derived.Test.YtnmiiimbjojcmaaDoorXi
import Derived.Test.YtnmiiimbjojcmaaDoorLzo
import Derived.Deep.OwnRows
import Derived.Laws.IdiomStrings
namespace Go.Proofs.YtnmiiimbjojcmaaDoor
open Go.RowKit Go.Shelf Go.Deep

def loF (i : Nat) : UInt8 := UInt8.ofNat (49 + i % 9)
theorem loF_nat (i : Nat) : (loF i).toNat = 49 + i % 9 := by unfold loF; rw [UInt8.toNat_ofNat']; omega
def loL (n : Nat) : List UInt8 := (List.range n).map loF
theorem loL_len (n : Nat) : (loL n).length = n := by unfold loL; simp
theorem loL_ok (n : Nat) : ∀ c ∈ loL n, 49 ≤ c.toNat ∧ c.toNat ≤ 57 := by
  intro c hc
  unfold loL at hc
  obtain ⟨i, _, rfl⟩ := List.mem_map.1 hc
  rw [loF_nat]; omega
def loS (n : Nat) : ByteArray := ⟨(loL n).toArray⟩
theorem loS_list (n : Nat) : (loS n).data.toList = loL n := rfl
theorem loS_size (n : Nat) : (loS n).size = n := by rw [← data_len, loS_list, loL_len]
/-- The row of the bytes. -/
def LoAt (w : World) (g N : Nat) : Prop := w.rowIs g 5 N (fun i => .int .u8 ((loF i).toNat : Int))
theorem lo_conv {w : World} {g N n c : Nat} (h : LoAt w g N) (hn : n ≤ N) : (convert 43 9 (.slice (some ⟨g, 0, none⟩) n c)).run Tryd.prog w = .ok (.string (loS n)) w := by
  have := run_convert_bytes_back (P := Tryd.prog) w 43 9 5 ⟨g, 0, none⟩ c (loL n) Tryd.underlying43 Tryd.underlying5 Tryd.underlying9 (fun j hj => by
    rw [loL_len] at hj
    rw [show (⟨g, 0, none⟩ : Addr).add j = ⟨g, j, none⟩ by simp [Addr.add] <;> omega]
    have e := World.rowIs.cell h (i := j) (by omega)
    rw [e]
    have e2 : (loL n)[j]'(by rw [loL_len]; exact hj) = loF j := by unfold loL; rw [List.getElem_map, List.getElem_range]
    rw [e2])
  rwa [loL_len] at this
theorem LoAt.below {w w' : World} {g N : Nat} (h : LoAt w g N) (hb : Below w.heap.size w w') : LoAt w' g N := World.rowIs.of_block h (hb.block g (World.rowIs.lt h))
theorem wrong_long (s : ByteArray) (w : World) (hs : 20000 < s.size) (hs2 : s.size ≤ 1000000) : Calls Tryd.prog 20 #[.string s, .int .i64 0, .int .i64 4] w (BelB w true) := by
  have HX : Hid (∀ W, Calls Tryd.prog 12 #[.string s] W (LexLong W)) := fun W => lex_long s W hs hs2
  go_enter Tryd.func20, Tryd.ntmps20
  go_wp2_with fail
  refine (HX.out _).mono ?_
  rintro e w' ⟨rfl, hb⟩
  have HB := Lib.hid hb
  clear hb
  go_wp2_with fail
  go_ret
  exact ⟨rfl, HB.out⟩
theorem app_list (s t : ByteArray) : (s ++ t).data.toList = s.data.toList ++ t.data.toList := by simp
theorem lo_skS {c : UInt8} {l : List UInt8} (h : 48 ≤ c.toNat ∧ c.toNat ≤ 57) : skS false (c :: l) = 0 := by
  refine skS_tok ?_ (by omega)
  unfold blQ; simp; omega
theorem lo_skL {n : Nat} (hn : 1 ≤ n) (X : List UInt8) : skS false (loL n ++ X) = 0 := by
  cases e : loL n with
  | nil => have := loL_len n; rw [e] at this; simp at this; omega
  | cons c r =>
    have := loL_ok n c (by rw [e]; exact List.mem_cons_self ..)
    exact lo_skS (by omega)
theorem wrong_big (W : World) (n : Nat) (hn : n = 1001) : Calls Tryd.prog 20 #[.string (loS n), .int .i64 0, .int .i64 14] W (BelB W true) := by
  have h0 := lo_skL (n := n) (by omega) []
  rw [List.append_nil] at h0
  exact wrong_ok (loS n) 0 14 W (by rw [loS_size]; omega) (by rw [loS_list]; exact lexL_bad (lo_big (loL_ok n) (by rw [loL_len]; omega)) h0 (by intro e; have := loL_len n; rw [e] at this; simp at this; omega))
theorem wrong_point (W : World) (n : Nat) (hn : n = 1000) : Calls Tryd.prog 20 #[.string (⟨#[48, 46]⟩ ++ loS n), .int .i64 0, .int .i64 14] W (BelB W true) := by
  have e : (⟨#[48, 46]⟩ ++ loS n : ByteArray).data.toList = 48 :: 46 :: loL n := by rw [app_list, loS_list]; rfl
  exact wrong_ok _ 0 14 W (by rw [← data_len, e]; simp [loL_len]; omega) (by rw [e]; exact lexL_bad (lo_point (loL_ok n) (by rw [loL_len]; omega)) (lo_skS (by decide)) (by simp))
theorem wrong_slash (W : World) (n : Nat) (hn : n = 1001) : Calls Tryd.prog 20 #[.string (⟨#[49, 47]⟩ ++ loS n), .int .i64 0, .int .i64 14] W (BelB W true) := by
  have e : (⟨#[49, 47]⟩ ++ loS n : ByteArray).data.toList = 49 :: 47 :: loL n := by rw [app_list, loS_list]; rfl
  exact wrong_ok _ 0 14 W (by rw [← data_len, e]; simp [loL_len]; omega) (by rw [e]; exact lexL_bad (lo_slash (loL_ok n) (by rw [loL_len]; omega)) (lo_skS (by decide)) (by simp))
def nmS : ByteArray := bsL nm40
theorem lex_three (W : World) (n : Nat) (hn : n = 1000) : Calls Tryd.prog 12 #[.string (loS n ++ ⟨#[59]⟩ ++ nmS)] W (LexY W 1041 [numT (loL n) 0, mrkT [59] 1000, wrdT nm40 1001] 3) := by
  have e : (loS n ++ ⟨#[59]⟩ ++ nmS : ByteArray).data.toList = loL n ++ 59 :: nm40 := by
    rw [app_list, app_list, loS_list, List.append_assoc]; rfl
  have hs : (loS n ++ ⟨#[59]⟩ ++ nmS : ByteArray).size = 1041 := by
    rw [← data_len, e, List.length_append, loL_len, List.length_cons]
    show n + (40 + 1) = 1041
    omega
  have := lex_some (loS n ++ ⟨#[59]⟩ ++ nmS) [numT (loL n) 0, mrkT [59] 1000, wrdT nm40 1001] 3 W (by rw [hs]; omega) (by rw [e]; exact lo_three (loL_ok n) (by rw [loL_len]; exact hn)) rfl (by decide)
  rwa [hs] at this
def nmE : List Tk := [numT [48] 0, numT [45, 51, 47, 50] 3, numT [48] 8, wrdT [97, 45, 50] 10, numT [45, 50] 14]
theorem date_0 : DateIs 0 1900 1 1 := ⟨by decide, by decide, by decide, by decide, of_decide_eq_true (by kernel_rfl), of_decide_eq_true (by kernel_rfl)⟩
theorem dtxt_0 : dtxt 0 = [49, 57, 48, 48, 45, 48, 49, 45, 48, 49] := by
  have key : ∀ y m d, DateIs 0 y m d → dateB y m d = [49, 57, 48, 48, 45, 48, 49, 45, 48, 49] := by
    intro y m d h
    obtain ⟨rfl, rfl, rfl⟩ := DateIs.unique h date_0
    rfl
  exact key _ _ _ (date_exists (0 : Int).toNat).choose_spec.choose_spec.choose_spec
/-- The tokens that are joined. -/
def jnE : List Tk := [wrdT [116, 111] 9, quoT [116, 111] 0, dayT 0 0, mrkT [45] 0, numT [49, 47, 51] 0]
def jnS : ByteArray := ⟨#[116, 111, 32, 34, 116, 111, 34, 32, 49, 57, 48, 48, 45, 48, 49, 45, 48, 49, 32, 45, 32, 49, 47, 51]⟩
theorem tkB_nf {R : ByteArray} (p : Int) (h0 : 0 ≤ p) (h1 : p ≤ 20000) (h : vlT R = true) : tkB ⟨3, bsL [], R, 0, p⟩ = true := by
  unfold tkB
  rw [if_neg (show ¬ (3 : Int) = 1 by decide), if_neg (show ¬ (3 : Int) = 2 by decide), if_pos rfl]
  have : (bsL []).toList.isEmpty = true := by rw [toList_data]; rfl
  dsimp only
  rw [this, h]; simp [h0, h1]
theorem tkB_ok1 {K : Int} {T : List UInt8} (hk : K = 1 ∨ K = 2) (p : Int) (h0 : 0 ≤ p) (h1 : p ≤ 20000) (h : nmB T = true) : tkB ⟨K, bsL T, bsL [], 0, p⟩ = true := by
  have e : (bsL []).toList.isEmpty = true := by rw [toList_data]; rfl
  unfold tkB
  dsimp only
  rw [bsL_list, e, h]
  rcases hk with rfl | rfl <;> simp [h0, h1]
theorem jn_ok : ∀ i, i < 5 → tkB (jnE[i]?.getD default) = true := by
  intro i hi
  match i, hi with
  | 0, _ => exact tkB_ok1 (.inl rfl) 9 (by decide) (by decide) (by decide)
  | 1, _ => exact tkB_ok1 (.inr rfl) 0 (by decide) (by decide) (by decide)
  | 2, _ =>
    show tkB ⟨4, bsL [], bsL [], 0, 0⟩ = true
    have e : (bsL []).toList.isEmpty = true := by rw [toList_data]; rfl
    unfold tkB; dsimp only; rw [e]; decide
  | 3, _ =>
    show tkB ⟨5, bsL [45], bsL [], 0, 0⟩ = true
    have e : (bsL []).toList.isEmpty = true := by rw [toList_data]; rfl
    have e1 : mk1 (bsL [45]) = true := by decide
    unfold tkB; dsimp only; rw [e, e1]; decide
  | 4, _ =>
    refine tkB_nf 0 (by decide) (by decide) ?_
    have h1 : txtZ (1 : Int) = [49] := txtZ_of (by decide)
    have h3 : txtZ (3 : Int) = [51] := txtZ_of (by decide)
    have e : ratT 1 3 = [49, 47, 51] := by unfold ratT; rw [if_neg (by decide), h1, h3]; rfl
    have b3 : bigZ 3 = false := bigZ_ten (n := 3) (m := 1) (by decide) (by decide) (by decide)
    unfold vlT
    rw [bsL_list, ← e, chkR_ratT ⟨by decide, by decide, bigZ_one, b3⟩]
    rfl
theorem jn_text : jT jnE 5 = jnS.data.toList := by
  have e2 : (txT (dayT 0 0)).data.toList = dtxt 0 := rfl
  show (((([] ++ ([] ++ (txT (wrdT [116, 111] 9)).data.toList)) ++ ([32] ++ (txT (quoT [116, 111] 0)).data.toList)) ++ ([32] ++ (txT (dayT 0 0)).data.toList)) ++ ([32] ++ (txT (mrkT [45] 0)).data.toList)) ++ ([32] ++ (txT (numT [49, 47, 51] 0)).data.toList) = _
  rw [e2, dtxt_0]
  have e1 : (txT (quoT [116, 111] 0)).data.toList = [34, 116, 111, 34] := by
    show ((⟨#[34]⟩ ++ bsL [116, 111] ++ ⟨#[34]⟩ : ByteArray)).data.toList = _
    simp [bsL]
  rw [e1]
  rfl
theorem jn_res : jR jnE 5 = (jnS, 0) := by
  rw [jR_ok jn_ok (by rw [jn_text]; decide), jn_text]
theorem jn_small : ∀ i, i < 5 → ¬ bigTk (jnE[i]?.getD default) := by
  intro i hi
  match i, hi with
  | 0, _ => exact (by decide : ¬ ((200 : Nat) < 2 ∨ (2500 : Nat) < 0))
  | 1, _ => exact (by decide : ¬ ((200 : Nat) < 2 ∨ (2500 : Nat) < 0))
  | 2, _ => exact (by decide : ¬ ((200 : Nat) < 0 ∨ (2500 : Nat) < 0))
  | 3, _ => exact (by decide : ¬ ((200 : Nat) < 1 ∨ (2500 : Nat) < 0))
  | 4, _ => exact (by decide : ¬ ((200 : Nat) < 0 ∨ (2500 : Nat) < 3))
/-- Two tokens, the second one empty. -/
def jbE : List Tk := [wrdT [97] 0, ⟨0, bsL [], bsL [], 0, 0⟩]
theorem jb_res : jR jbE 2 = (⟨#[]⟩, 8) := jR_bad (i := 1) (by decide) (by
  show tkB ⟨0, bsL [], bsL [], 0, 0⟩ = false
  rfl)
theorem jb_small : ∀ i, i < 2 → ¬ bigTk (jbE[i]?.getD default) := by
  intro i hi
  match i, hi with
  | 0, _ => exact (by decide : ¬ ((200 : Nat) < 1 ∨ (2500 : Nat) < 0))
  | 1, _ => exact (by decide : ¬ ((200 : Nat) < 0 ∨ (2500 : Nat) < 0))
/-- Join of tokens that lie in a fresh block. -/
theorem join_fresh (l : List Tk) (n c : Nat) (cs : Array Value) (s : ByteArray) (er : Int) (W : World) (hl : l.length = n) (hn : n ≤ 300) (hcs : cs.toList = tks l) (hs : ∀ i, i < n → ¬ bigTk (l[i]?.getD default)) (hR : jR l n = (s, er)) :
    Calls Tryd.prog 19 #[.slice (some ⟨W.heap.size, 0, none⟩) n c] (W.alloc (.cells cs 33)) (TPost (W.alloc (.cells cs 33)) s er) := by
  have := join_any W.heap.size 0 n c l (W.alloc (.cells cs 33)) hl hn (by rw [World.size_alloc]; omega) (tks_of_row (rowAt_alloc rfl hcs)) hs
  rwa [hR] at this
/-- Check of a token that is not valid. -/
def Err8 (W : World) (e : Ending) (w' : World) : Prop := e = .returned (.int .i64 8) ∧ Below W.heap.size W w'
theorem check_bad (K : Int) (T R : ByteArray) (D Z : Int) (W : World) (hr : R.size ≤ 100000) (h : tkB ⟨K, T, R, D, Z⟩ = false) : Calls Tryd.prog 16 #[.agg #[.int .u8 K, .string T, .string R, .int .i64 D, .int .i64 Z]] W (Err8 W) := by
  have := check_tk ⟨K, T, R, D, Z⟩ W hr
  rw [h] at this
  exact this.mono fun e w' ⟨he, hb⟩ => ⟨he, hb⟩

end Go.Proofs.YtnmiiimbjojcmaaDoor
