/-
  The program's number, walked: what it reads at a place. No condition.
-/
import Derived.Test.YtnmiiimbjojcmaaGreatDoorXb
import Derived.Test.YtnmiiimbjojcmaaGreatDoorXc
import Derived.Test.YtnmiiimbjojcmaaGreatDoorVm
namespace Go.Proofs.YtnmiiimbjojcmaaGreatDoor
open Go.RowKit

theorem numV_zero (l : List UInt8) : numV (48 :: l) = numV l := by
  unfold numV; rw [List.foldl_cons]; rfl
theorem trim_digits {l : List UInt8} (h : ∀ c ∈ l, dgQ c = true) : l.dropWhile (· == 48) = if numV l = 0 then [] else txtN (numV l) := by
  induction l with
  | nil => rfl
  | cons c l ih =>
    by_cases hc : c = 48
    · subst hc
      rw [numV_zero, ← ih fun x hx => h x (List.mem_cons_of_mem _ hx)]
      rfl
    · have hcan : CanN (c :: l) := ⟨List.cons_ne_nil _ _, fun x hx => by have := h x hx; unfold dgQ at this; simpa using this, fun a => by simp at a; exact absurd a hc⟩
      have e := txtN_undig _ hcan
      rw [← numV_undig] at e
      have hp := numV_pos (List.cons_ne_nil c l) h (by intro a; simp at a; exact hc a)
      rw [if_neg (by omega), e, List.dropWhile_cons, if_neg (by simpa using hc)]
theorem numV_ten (k : Nat) : numV (49 :: List.replicate k 48) = 10 ^ k := by
  induction k with
  | zero => rfl
  | succ k ih =>
    rw [List.replicate_succ']
    show numV ((49 :: List.replicate k 48) ++ [48]) = _
    rw [numV_snoc, ih, Nat.pow_succ]
    show 10 * 10 ^ k + (48 - 48) = _
    omega
theorem txtN_ten (k : Nat) : 49 :: List.replicate k 48 = txtN (10 ^ k) := by
  have hcan : CanN (49 :: List.replicate k 48) := ⟨List.cons_ne_nil _ _, fun x hx => by
    rcases List.mem_cons.1 hx with rfl | hx
    · decide
    · rw [List.eq_of_mem_replicate hx]; decide, fun a => by simp at a⟩
  have e := txtN_undig _ hcan
  rw [← numV_undig, numV_ten] at e
  exact e.symm
theorem txtN_can {l : List UInt8} (hl : l ≠ []) (h : ∀ c ∈ l, dgQ c = true) (h0 : l.head? ≠ some 48) : l = txtN (numV l) := by
  have hcan : CanN l := ⟨hl, fun x hx => by have := h x hx; unfold dgQ at this; simpa using this, fun a => absurd a h0⟩
  have e := txtN_undig _ hcan
  rw [← numV_undig] at e
  exact e.symm

/-- What number hands back. -/
def NumPost (w : World) (i : Nat) (R : OneR) (e : Ending) (w' : World) : Prop :=
  (match R with
   | .no er => ∃ (r : ByteArray) (en : Int), e = .returned (.tuple #[.string r, .int .i64 en, .int .i64 er])
   | .yes t n => e = .returned (.tuple #[.string t.rat, .int .i64 ((i + n : Nat) : Int), .int .i64 0])) ∧ Below w.heap.size w w'
theorem numPost_yes {w w' : World} {i n en : Nat} {t : Tk} (h : i + n = en) (b : Below w.heap.size w w') : NumPost w i (.yes t n) (.returned (.tuple #[.string t.rat, .int .i64 (en : Int), .int .i64 0])) w' := by
  subst h; exact ⟨rfl, b⟩
theorem after_one (s : ByteArray) (i0 k : Nat) (hs : s.size ≤ 1000000) (hi : i0 ≤ s.size) (W : World) :
    Calls Tryz.prog 17 #[.string s, .int .i64 (i0 : Int), .slice (some ⟨W.heap.size, 0, none⟩) 1 1] (W.alloc (.cells #[.int .i64 (k : Int)] 3)) (RetI (W.alloc (.cells #[.int .i64 (k : Int)] 3)) ((i0 + spn (clsB [k]) (s.data.toList.drop i0) : Nat) : Int)) :=
  after_any s i0 1 1 _ [k] _ hs hi rfl (by omega) (fun j hj => ⟨W.heap.size, 0, rfl, by simp, by
    have hj0 : j = 0 := by simp at hj; exact hj
    subst hj0
    have := World.alloc_heap_new W (.cells #[.int .i64 (k : Int)] 3)
    show (match (W.alloc (.cells #[.int .i64 (k : Int)] 3)).heap[W.heap.size]? with | some (.cells c _ _) => c[0]? | _ => none) = _
    rw [this]; rfl⟩)
theorem cls_dig : clsB [2] = dgQ := by
  funext c
  unfold clsB
  have := (cls_parts c).1
  cases h : dgQ c
  · have : ¬ classN c = 2 := fun a => by rw [this.1 a] at h; cases h
    simpa using this
  · simpa using this.2 h
theorem ext_list (s : ByteArray) (a b : Nat) : (s.extract a b).data.toList = (s.data.toList.drop a).take (b - a) := by
  rw [ByteArray.data_extract, Array.toList_extract, List.extract_eq_take_drop]
theorem head_eq {t : ByteArray} {l : List UInt8} {n : Nat} (e : t.data.toList = l.take n) (h : 0 < t.size) : ((t[0].toNat : Int) == 48) = decide (l.head? = some 48) := by
  have h1 := data_head t h
  rw [e] at h1
  have hl : t.data.toList.length = t.size := data_len t
  rw [e] at hl
  have h2 : (l.take n).head? = l.head? := by
    cases l with
    | nil => simp
    | cons c l => cases n with
      | zero => simp at hl; omega
      | succ n => rfl
  rw [← h2, h1, Bool.eq_iff_iff, beq_iff_eq, decide_eq_true_eq, Option.some.injEq, ← UInt8.toNat_inj]
  show _ ↔ t[0].toNat = 48
  omega
theorem str_at0 {t : ByteArray} (h : 0 < t.size) : t.data.toList.head? = some t[0] := data_head t h
theorem rep_eq (k : Nat) : Lib.repeatL [48] k = List.replicate k 48 := by
  induction k with
  | zero => rfl
  | succ k ih => show [48] ++ Lib.repeatL [48] k = _; rw [ih]; rfl
theorem at_dig {l : List UInt8} : (atN l == 2) = dgH l := by
  cases l with
  | nil => rfl
  | cons c l =>
    have := (cls_parts c).1
    show (classN c == 2) = dgQ c
    cases h : dgQ c
    · have : ¬ classN c = 2 := fun a => by rw [this.1 a] at h; cases h
      simpa using this
    · simpa using this.2 h
/-- The tail of number: the value, once the parts are read. -/
theorem tail_val {NN : List UInt8} (h : ∀ c ∈ NN, dgQ c = true) (hl : NN.length ≤ 1000) (sg : Bool) :
    (if (NN.dropWhile (· == 48)) = [] then [48] else if sg = true then 45 :: NN.dropWhile (· == 48) else NN.dropWhile (· == 48)) = txtZ (if sg = true then -(numV NN : Int) else (numV NN : Int)) ∧
      bigZ (if sg = true then -(numV NN : Int) else (numV NN : Int)) = false := by
  obtain ⟨M, hM⟩ : ∃ M, M = 1000 := ⟨_, rfl⟩
  have hv : numV NN < 10 ^ M := Nat.lt_of_lt_of_le (numV_le NN fun c hc => by have := h c hc; unfold dgQ at this; simpa using this) (Nat.pow_le_pow_right (by omega) (by omega))
  have hb := bigZ_ten hv (by omega) (by omega)
  refine ⟨?_, bigZ_small (x := (numV NN : Int)) (by split <;> simp) hb⟩
  rw [trim_digits h]
  by_cases h0 : numV NN = 0
  · rw [if_pos h0, if_pos rfl, h0]
    cases sg <;> rfl
  · rw [if_neg h0, if_neg (txtN_ne _)]
    cases sg
    · rw [if_neg (by decide), if_neg (by decide)]
      unfold txtZ
      rw [if_neg (by omega), Int.natAbs_natCast]
    · rw [if_pos rfl, if_pos rfl]
      unfold txtZ
      rw [if_pos (by omega)]
      congr 2
      omega

set_option maxHeartbeats 4000000 in
set_option maxRecDepth 100000 in
/-- number, walked: the parts are named by their own equations. -/
theorem number_go (s : ByteArray) (i F P EN : Nat) (NN DD tr nz res : ByteArray) (sg frc pt FO ended big : Bool) (w : World) (hs : s.size ≤ 100000) (hi : i < s.size) (t45 : ((s[i].toNat : Int) == 45) = sg)
    (hF : F = i + (if sg = true then 1 else 0)) (hFs : F ≤ s.size) (hP : P = F + spn dgQ (s.data.toList.drop F)) (hPs : P ≤ s.size) (hfrc : frc = frcQ (s.data.toList.drop P))
    (hpt : ∀ h : P < s.size, frc = true → pt = decide (s[P].toNat = 46))
    (hEN : EN = if frc = true then P + 1 + spn dgQ (s.data.toList.drop (P + 1)) else P) (hENs : EN ≤ s.size)
    (hFP : F ≤ P) (hPE : P + 1 ≤ EN ∨ frc = false)
    (hNN : NN = if frc = true ∧ pt = true then s.extract F P ++ s.extract (P + 1) EN else s.extract F P)
    (hDD : DD = if frc = true then (if pt = true then ⟨#[49]⟩ ++ ⟨(Lib.repeatL [48] (EN - (P + 1))).toArray⟩ else s.extract (P + 1) EN) else ⟨#[49]⟩)
    (hFO : FO = ((decide (1 < P - F) && decide ((s.data.toList.drop F).head? = some 48)) || (frc && !pt && decide ((s.data.toList.drop (P + 1)).head? = some 48))))
    (hend : ended = endQ (s.data.toList.drop EN)) (hbig : big = (decide (1000 < NN.size) || decide (1000 < DD.size)))
    (htr : tr = ⟨(NN.data.toList.dropWhile (· == 48)).toArray⟩) (hnz : nz = if tr.toList.isEmpty = true then ⟨#[48]⟩ else if sg = true then ⟨#[45]⟩ ++ tr else tr)
    (HMK : Hid (FO = false → big = false → ∀ W, Calls Tryz.prog 47 #[.string nz, .string DD] W (StE W res 0))) :
    Calls Tryz.prog 24 #[.string s, .int .i64 (i : Int)] w (NumPost w i (if FO = true ∨ ended = false then .no 12 else if big = true then .no 14 else .yes ⟨3, bsL [], res, 0, 0⟩ (EN - i))) := by
  have HA1 : Hid (∀ W : World, Calls Tryz.prog 17 #[.string s, .int .i64 (F : Int), .slice (some ⟨W.heap.size, 0, none⟩) 1 1] (W.alloc (.cells #[.int .i64 2] 3)) (RetI (W.alloc (.cells #[.int .i64 2] 3)) (P : Int))) := fun W => by
    have := after_one s F 2 (by omega) hFs W
    rw [cls_dig, ← hP] at this
    exact this
  have HA2 : Hid (∀ W : World, P + 1 ≤ s.size → frc = true → Calls Tryz.prog 17 #[.string s, .int .i64 ((P : Int) + 1), .slice (some ⟨W.heap.size, 0, none⟩) 1 1] (W.alloc (.cells #[.int .i64 2] 3)) (RetI (W.alloc (.cells #[.int .i64 2] 3)) (EN : Int))) := fun W h1 h2 => by
    rw [show ((P : Int) + 1) = ((P + 1 : Nat) : Int) by omega]
    have := after_one s (P + 1) 2 (by omega) h1 W
    rw [cls_dig] at this
    rw [hEN, if_pos h2]
    exact this
  have HAT : Hid (∀ W, Calls Tryz.prog 18 #[.string s, .int .i64 ((P : Int) + 1)] W (RetI W (atN (s.data.toList.drop (P + 1))))) := fun W => by
    rw [show ((P : Int) + 1) = ((P + 1 : Nat) : Int) by omega]; exact lat_any s (P + 1) W
  have HCL : Hid (∀ W, Calls Tryz.prog 22 #[.string s, .int .i64 (EN : Int)] W (RetB W ended)) := fun W => by rw [hend]; exact clean_any s EN W
  have HTR : Hid (∀ W, Calls Tryz.prog 46 #[.string NN, .string ⟨#[48]⟩] W fun e w' => e = .returned (.string tr) ∧ W = w') := fun W => by
    rw [htr]
    exact (Tryz.strings_TrimLeft_one NN 48 (by decide) W).mono fun e w' ⟨a, b⟩ => ⟨a, b.symm⟩
  have HRP : Hid (∀ W, Calls Tryz.prog 45 #[.string ⟨#[48]⟩, .int .i64 ((EN - (P + 1) : Nat) : Int)] W fun e w' => e = .returned (.string ⟨(Lib.repeatL [48] (EN - (P + 1))).toArray⟩) ∧ Below W.heap.size W w') := fun W =>
    Tryz.strings_Repeat ⟨#[48]⟩ (EN - (P + 1)) W (by omega) (by show 1 * _ ≤ _; omega)
  have HTL : Hid (NN.size ≤ 1000 → tr.size ≤ 1000) := fun h => by
    rw [htr, ← data_len]
    show (NN.data.toList.dropWhile _).length ≤ _
    have := (List.dropWhile_sublist (l := NN.data.toList) (· == 48)).length_le
    rw [data_len] at this
    omega
  have hPEN : P ≤ EN := by rw [hEN]; split <;> omega
  obtain ⟨ds, hds⟩ : ∃ ds, ds = dgH (s.data.toList.drop (P + 1)) := ⟨_, rfl⟩
  have hadig : (atN (s.data.toList.drop (P + 1)) == 2) = ds := by rw [hds]; exact at_dig
  have hfrc2 : ∀ h : P < s.size, frc = (decide (s[P].toNat = 46 ∨ s[P].toNat = 47) && ds) := fun h => by
    rw [hfrc, hds, data_drop s P h]
    cases s.data.toList.drop (P + 1) with
    | nil => show false = (_ && false); rw [Bool.and_false]
    | cons x l => rfl
  have hfrc3 : ¬ P < s.size → frc = false := fun h => by
    rw [hfrc, List.drop_eq_nil_of_le (by rw [data_len]; omega)]; rfl
  have hbp : frc = true → P + 2 ≤ EN := fun h => by
    have hlt : P < s.size := Decidable.byContradiction fun hn => by rw [hfrc3 hn] at h; cases h
    have h2 := hfrc2 hlt
    rw [h] at h2
    have hd : ds = true := by cases ds with
      | true => rfl
      | false => rw [Bool.and_false] at h2; cases h2
    rw [hds] at hd
    rw [hEN, if_pos h]
    cases hl : s.data.toList.drop (P + 1) with
    | nil => rw [hl] at hd; cases hd
    | cons c l =>
      rw [hl] at hd
      have := spn_pos (r := l) (show dgQ c = true from hd)
      omega
  obtain ⟨atv, hatv⟩ : ∃ atv, atv = atN (s.data.toList.drop (P + 1)) := ⟨_, rfl⟩
  rw [← hatv] at HAT hadig
  obtain ⟨RES, hRES⟩ : ∃ RES : OneR, RES = (if FO = true ∨ ended = false then .no 12 else if big = true then .no 14 else .yes ⟨3, bsL [], res, 0, 0⟩ (EN - i)) := ⟨_, rfl⟩
  rw [← hRES]
  obtain ⟨fr, hfr⟩ : ∃ fr, fr = s.extract F P := ⟨_, rfl⟩
  obtain ⟨bk, hbk⟩ : ∃ bk, bk = s.extract (P + 1) EN := ⟨_, rfl⟩
  have hfrs : fr.size = P - F := by rw [hfr]; simp; omega
  have hbks : frc = true → bk.size = EN - (P + 1) := fun h => by rw [hbk]; simp; omega
  have hbk0 : ∀ h : 0 < bk.size, ((bk[0].toNat : Int) == 48) = decide ((s.data.toList.drop (P + 1)).head? = some 48) := fun h => head_eq (by rw [hbk, ext_list]) h
  have hfr0 : ∀ h : 0 < fr.size, ((fr[0].toNat : Int) == 48) = decide ((s.data.toList.drop F).head? = some 48) := fun h => head_eq (by rw [hfr, ext_list]) h
  rw [← hfr, ← hbk] at hNN
  rw [← hbk] at hDD
  have HF := Lib.hid hF
  have HFO := Lib.hid hFO
  have HR := Lib.hid hRES
  have HNN := Lib.hid hNN
  have HDD := Lib.hid hDD
  have HNZ := Lib.hid hnz
  have HBIG := Lib.hid hbig
  have HFRC := Lib.hid hfrc2
  have HFRC3 := Lib.hid hfrc3
  have HPT := Lib.hid hpt
  have HADIG := Lib.hid hadig
  have HFR := Lib.hid hfr
  have HBK := Lib.hid hbk
  have HFRS := Lib.hid hfrs
  have HBKS := Lib.hid hbks
  have HFR0 := Lib.hid hfr0
  have HBK0 := Lib.hid hbk0
  have HENE := Lib.hid hEN
  have HBP := Lib.hid hbp
  clear hF hFO hRES hNN hDD hnz hbig hfrc hfrc2 hfrc3 hpt hadig hfr hbk hP hend htr hds hatv hEN hfrs hbks hbk0 hfr0 hbp
  go_enter Tryz.func24, Tryz.ntmps24
  go_upto_if 17 with (fail)
  go_cut [7] (fun s7 wx => s7 = .int .i64 (F : Int) ∧ w = wx)
  case first => as_aux_lemma =>
    cases sg
    · have e := HF.out
      rw [if_neg (by decide), Nat.add_zero] at e
      have E := Lib.hid e
      clear e
      go_wp2_with fail
      go_meet
      exact ⟨by rw [E.out], rfl⟩
    · have e := HF.out
      rw [if_pos rfl] at e
      have E := Lib.hid e
      clear e
      go_wp2_with fail
      go_meet
      exact ⟨by rw [E.out]; go_num, rfl⟩
  case rest => as_aux_lemma =>
    obtain ⟨rfl, rfl⟩ := hcut
    go_wp2_with fail
    refine (HA1.out _).mono ?_
    rintro e w' ⟨rfl, rfl⟩
    have B1 : Hid (Below w.heap.size w (w.alloc (.cells #[.int .i64 2] 3))) := own_below w _
    obtain ⟨W1, hW1⟩ : ∃ W1, W1 = w.alloc (.cells #[.int .i64 2] 3) := ⟨_, rfl⟩
    rw [← hW1] at B1 ⊢
    obtain ⟨f0, hf0⟩ : ∃ f0, f0 = (decide (1 < P - F) && decide ((s.data.toList.drop F).head? = some 48)) := ⟨_, rfl⟩
    have HF0 := Lib.hid hf0
    clear hW1 hf0
    go_upto_region 7 with (fail)
    rw [← HFR.out]
    go_cut [11] (fun s11 wx => s11 = .bool f0 ∧ W1 = wx)
    case first => as_aux_lemma =>
      have hs1 := HFRS.out
      by_cases h1 : 1 < P - F
      · have hp : 0 < fr.size := by omega
        have h2 : 1 < fr.size := by omega
        have e := HFR0.out hp
        have e2 := HF0.out
        rw [decide_eq_true h1, Bool.true_and, ← e] at e2
        have E2 := Lib.hid e2
        clear e e2 hs1
        go_wp2_with fail
        go_meet
        exact ⟨by rw [E2.out], rfl⟩
      · have h2 : ¬ 1 < fr.size := by omega
        have e2 := HF0.out
        rw [decide_eq_false h1, Bool.false_and] at e2
        have E2 := Lib.hid e2
        clear e2 hs1
        go_wp2_with fail
        go_meet
        exact ⟨by rw [E2.out], rfl⟩
    case rest => as_aux_lemma =>
      obtain ⟨rfl, rfl⟩ := hcut
      go_upto_region 8 with (fail)
      go_cut [59] (fun s59 wx => s59 = .bool frc ∧ W1 = wx)
      case first => as_aux_lemma =>
        by_cases h1 : P < s.size
        · have e := HFRC.out h1
          by_cases h46 : s[P].toNat = 46
          · have t1 : ((s[P].toNat : Int) == 46) = true := by simp; omega
            rw [decide_eq_true (Or.inl h46), Bool.true_and, ← HADIG.out] at e
            have E := Lib.hid e
            clear e h46
            go_wp2_with fail
            refine (HAT.out _).mono ?_
            rintro e w' ⟨rfl, rfl⟩
            go_wp2_with fail
            go_meet
            exact ⟨by rw [E.out], rfl⟩
          · have t1 : ((s[P].toNat : Int) == 46) = false := by simp; omega
            by_cases h47 : s[P].toNat = 47
            · have t2 : ((s[P].toNat : Int) == 47) = true := by simp; omega
              rw [decide_eq_true (Or.inr h47), Bool.true_and, ← HADIG.out] at e
              have E := Lib.hid e
              clear e h46 h47
              go_wp2_with fail
              refine (HAT.out _).mono ?_
              rintro e w' ⟨rfl, rfl⟩
              go_wp2_with fail
              go_meet
              exact ⟨by rw [E.out], rfl⟩
            · have t2 : ((s[P].toNat : Int) == 47) = false := by simp; omega
              rw [decide_eq_false (by rintro (h | h); exact h46 h; exact h47 h), Bool.false_and] at e
              have E := Lib.hid e
              clear e h46 h47
              go_wp2_with fail
              go_meet
              exact ⟨by rw [E.out], rfl⟩
        · have e := HFRC3.out h1
          have E := Lib.hid e
          clear e
          go_wp2_with fail
          go_meet
          exact ⟨by rw [E.out], rfl⟩
      case rest => as_aux_lemma =>
        obtain ⟨rfl, rfl⟩ := hcut
        go_upto_if 59 with (fail)
        go_cut [5, 9, 10, 11] (fun s5 s9 s10 s11 wx => s5 = .int .i64 (EN : Int) ∧ s9 = .string NN ∧ s10 = .string DD ∧ s11 = .bool FO ∧ Below w.heap.size w wx)
        case first => as_aux_lemma =>
          cases frc
          · have e1 := HNN.out
            have e2 := HDD.out
            have e3 := HFO.out
            have e4 := HENE.out
            rw [if_neg (by rintro ⟨h, _⟩; cases h)] at e1
            rw [if_neg (by decide)] at e2 e4
            rw [Bool.false_and, Bool.false_and, Bool.or_false, ← HF0.out] at e3
            have E1 := Lib.hid e1
            have E2 := Lib.hid e2
            have E3 := Lib.hid e3
            have E4 := Lib.hid e4
            clear e1 e2 e3 e4
            go_wp2_with fail
            go_meet
            exact ⟨by rw [E4.out], by rw [E1.out], by rw [E2.out], by rw [E3.out], B1.out⟩
          · have hlt : P < s.size := Decidable.byContradiction fun hn => by have := HFRC3.out hn; cases this
            have hbp := HBP.out rfl
            have hbs := HBKS.out rfl
            have hbs0 : 0 < bk.size := by omega
            have HB0 := Lib.hid (HBK0.out hbs0)
            have HPT2 := Lib.hid (HPT.out hlt rfl)
            have e1 := HNN.out
            have e2 := HDD.out
            have e3 := HFO.out
            rw [if_pos rfl] at e2
            rw [Bool.true_and, ← HF0.out, ← HB0.out] at e3
            have HRP2 : Hid (∀ W, Calls Tryz.prog 45 #[.string ⟨#[48]⟩, .int .i64 (bk.size : Int)] W fun e w' => e = .returned (.string ⟨(Lib.repeatL [48] (EN - (P + 1))).toArray⟩) ∧ Below W.heap.size W w') := fun W => by rw [hbs]; exact HRP.out W
            have BKS := Lib.hid hbs
            have hbkle : bk.size ≤ 100000 := by omega
            have hP1s : P + 1 ≤ EN := by omega
            have rlen : (⟨(Lib.repeatL [48] (EN - (P + 1))).toArray⟩ : ByteArray).size ≤ 100000 := by
              rw [← data_len]
              show (Lib.repeatL [48] (EN - (P + 1))).length ≤ _
              rw [Lib.repeatL_length]
              simp; omega
            obtain ⟨rp, hrp⟩ : ∃ rp : ByteArray, rp = ⟨(Lib.repeatL [48] (EN - (P + 1))).toArray⟩ := ⟨_, rfl⟩
            rw [← hrp] at rlen e2 HRP2
            have hfrle : fr.size ≤ 100000 := by have := HFRS.out; omega
            clear hbs hrp
            cases pt
            · rw [if_neg (by rintro ⟨_, h⟩; cases h)] at e1
              rw [if_neg (by decide)] at e2
              have h46 : ¬ s[P].toNat = 46 := fun h => by have := HPT2.out; rw [decide_eq_true h] at this; cases this
              have t1 : ((s[P].toNat : Int) == 46) = false := by simp; omega
              have E1 := Lib.hid e1
              have E2 := Lib.hid e2
              have E3 := Lib.hid e3
              clear e1 e2 e3 h46
              go_wp2_with fail
              refine (HA2.out _ (by omega) trivial).mono ?_
              rintro e w' ⟨rfl, rfl⟩
              have B2 : Hid (Below w.heap.size w (W1.alloc (.cells #[.int .i64 2] 3))) := B1.out.alloc B1.out.size _
              obtain ⟨W2, hW2⟩ : ∃ W2, W2 = W1.alloc (.cells #[.int .i64 2] 3) := ⟨_, rfl⟩
              rw [← hW2] at B2 ⊢
              clear hW2
              go_upto_if 73 with (fail)
              rw [← HBK.out]
              cases f0
              · go_wp2_with fail
                go_meet
                exact ⟨rfl, by rw [E1.out], by rw [E2.out], by rw [E3.out]; rfl, B2.out⟩
              · go_wp2_with fail
                go_meet
                exact ⟨rfl, by rw [E1.out], by rw [E2.out], by rw [E3.out]; rfl, B2.out⟩
            · rw [if_pos ⟨rfl, rfl⟩] at e1
              rw [if_pos rfl] at e2
              rw [show (!true) = false from rfl, Bool.false_and, Bool.or_false] at e3
              have h46 : s[P].toNat = 46 := by have := HPT2.out; simpa using this.symm
              have t1 : ((s[P].toNat : Int) == 46) = true := by simp; omega
              have E1 := Lib.hid e1
              have E2 := Lib.hid e2
              have E3 := Lib.hid e3
              clear e1 e2 e3 h46
              go_wp2_with fail
              refine (HA2.out _ (by omega) trivial).mono ?_
              rintro e w' ⟨rfl, rfl⟩
              have B2 : Hid (Below w.heap.size w (W1.alloc (.cells #[.int .i64 2] 3))) := B1.out.alloc B1.out.size _
              obtain ⟨W2, hW2⟩ : ∃ W2, W2 = W1.alloc (.cells #[.int .i64 2] 3) := ⟨_, rfl⟩
              rw [← hW2] at B2 ⊢
              clear hW2
              go_upto_if 73 with (fail)
              rw [← HBK.out]
              go_wp2_with fail
              refine (HRP2.out _).mono ?_
              rintro e w3 ⟨rfl, b3⟩
              have B3 := Lib.hid (B2.out.trans (b3.mono B2.out.size))
              clear b3
              go_wp2_with fail
              go_meet
              exact ⟨rfl, by rw [E1.out], by rw [E2.out], by rw [E3.out], B3.out⟩
        case rest => as_aux_lemma =>
          obtain ⟨rfl, rfl, rfl, rfl, b2⟩ := hcut
          have B2 := Lib.hid b2
          clear b2
          cases FO
          · go_wp2_with fail
            refine (HCL.out _).mono ?_
            rintro e w' ⟨rfl, rfl⟩
            cases ended
            · have hR : RES = .no 12 := HR.out.trans (if_pos (.inr rfl))
              have HRR := Lib.hid hR
              clear hR
              go_wp2_with fail
              go_ret3
              show NumPost _ _ _ _ _
              rw [HRR.out]
              exact ⟨⟨_, _, rfl⟩, B2.out⟩
            · have hR0 : RES = if big = true then .no 14 else .yes ⟨3, bsL [], res, 0, 0⟩ (EN - i) := HR.out.trans (if_neg (by rintro (h | h) <;> cases h))
              by_cases h1 : 1000 < NN.size
              · have hb : big = true := by rw [HBIG.out, decide_eq_true h1]; rfl
                rw [if_pos hb] at hR0
                have HRR := Lib.hid hR0
                clear hR0 hb
                go_wp2_with fail
                go_ret3
                show NumPost _ _ _ _ _
                rw [HRR.out]
                exact ⟨⟨_, _, rfl⟩, B2.out⟩
              · by_cases h2 : 1000 < DD.size
                · have hb : big = true := by rw [HBIG.out, decide_eq_true h2, Bool.or_true]
                  rw [if_pos hb] at hR0
                  have HRR := Lib.hid hR0
                  clear hR0 hb
                  go_wp2_with fail
                  go_ret3
                  show NumPost _ _ _ _ _
                  rw [HRR.out]
                  exact ⟨⟨_, _, rfl⟩, B2.out⟩
                · have hb : ¬ big = true := by rw [HBIG.out, decide_eq_false h1, decide_eq_false h2]; decide
                  rw [if_neg hb] at hR0
                  have HRR := Lib.hid hR0
                  have hbf : big = false := by simpa using hb
                  have HMK1 := Lib.hid (HMK.out (by trivial) hbf)
                  clear hR0 hb hbf
                  have hnz := HNZ.out
                  have htl : tr.size ≤ 1000 := HTL.out (by omega)
                  have hin : i ≤ EN := by
                    have : i ≤ F := by rw [HF.out]; exact Nat.le_add_right _ _
                    omega
                  cases htz : tr.toList.isEmpty
                  · rw [htz, if_neg (by decide)] at hnz
                    cases sg
                    · rw [if_neg (by decide)] at hnz
                      have hFi := HF.out
                      rw [if_neg (by decide), Nat.add_zero] at hFi
                      have hgt : ¬ i < F := by omega
                      have HM := HMK1.out
                      rw [hnz] at HM
                      have HM2 := Lib.hid HM
                      clear HM hnz hFi
                      go_wp2_with fail
                      refine (HTR.out _).mono ?_
                      rintro e w' ⟨rfl, rfl⟩
                      go_wp2_with fail
                      refine (HM2.out _).mono ?_
                      rintro e w4 ⟨rfl, b4⟩
                      have B4 := Lib.hid (B2.out.trans (b4.mono B2.out.size))
                      clear b4
                      go_wp2_with fail
                      go_ret3
                      show NumPost _ _ _ _ _
                      rw [HRR.out]
                      exact numPost_yes (by omega) B4.out
                    · rw [if_pos rfl] at hnz
                      have hFi := HF.out
                      rw [if_pos rfl] at hFi
                      have hgt : i < F := by omega
                      have HM := HMK1.out
                      rw [hnz] at HM
                      have HM2 := Lib.hid HM
                      clear HM hnz hFi
                      go_wp2_with fail
                      refine (HTR.out _).mono ?_
                      rintro e w' ⟨rfl, rfl⟩
                      go_wp2_with fail
                      refine (HM2.out _).mono ?_
                      rintro e w4 ⟨rfl, b4⟩
                      have B4 := Lib.hid (B2.out.trans (b4.mono B2.out.size))
                      clear b4
                      go_wp2_with fail
                      go_ret3
                      show NumPost _ _ _ _ _
                      rw [HRR.out]
                      exact numPost_yes (by omega) B4.out
                  · rw [htz, if_pos rfl] at hnz
                    have HM := HMK1.out
                    rw [hnz] at HM
                    have HM2 := Lib.hid HM
                    clear HM hnz
                    go_wp2_with fail
                    refine (HTR.out _).mono ?_
                    rintro e w' ⟨rfl, rfl⟩
                    go_wp2_with fail
                    refine (HM2.out _).mono ?_
                    rintro e w4 ⟨rfl, b4⟩
                    have B4 := Lib.hid (B2.out.trans (b4.mono B2.out.size))
                    clear b4
                    go_wp2_with fail
                    go_ret3
                    show NumPost _ _ _ _ _
                    rw [HRR.out]
                    exact numPost_yes (by omega) B4.out
          · have hR : RES = .no 12 := HR.out.trans (if_pos (.inl rfl))
            have HRR := Lib.hid hR
            clear hR
            go_wp2_with fail
            go_ret3
            show NumPost _ _ _ _ _
            rw [HRR.out]
            exact ⟨⟨_, _, rfl⟩, B2.out⟩

theorem drop_drop' (l : List UInt8) (a b : Nat) : (l.drop a).drop b = l.drop (a + b) := List.drop_drop
theorem number_any (s : ByteArray) (i : Nat) (w : World) (hs : s.size ≤ 100000) (hi : i < s.size) (hd : dgQ s[i] = true ∨ (s[i].toNat = 45 ∧ dgH (s.data.toList.drop (i + 1)) = true)) :
    Calls Tryz.prog 24 #[.string s, .int .i64 (i : Int)] w (NumPost w i (numK (s.data.toList.drop i))) := by
  obtain ⟨L, hL⟩ : ∃ L, L = s.data.toList := ⟨_, rfl⟩
  have hlen : L.length = s.size := by rw [hL]; exact data_len s
  have hli : L.drop i = s[i] :: L.drop (i + 1) := by rw [hL]; exact data_drop s i hi
  obtain ⟨sg, hsg⟩ : ∃ sg, ((s[i].toNat : Int) == 45) = sg := ⟨_, rfl⟩
  have hnS : numS (L.drop i) = if sg = true then 1 else 0 := by
    rw [hli]
    unfold numS
    rw [← hsg]
    by_cases h : s[i].toNat = 45
    · have : s[i] = 45 := by rw [← UInt8.toNat_inj]; exact h
      rw [if_pos (by rw [this]; rfl), if_pos (by simp; omega)]
    · rw [if_neg (by intro a; simp at a; exact h (by rw [a]; rfl)), if_neg (by simp; omega)]
  obtain ⟨F, hF⟩ : ∃ F, F = i + (if sg = true then 1 else 0) := ⟨_, rfl⟩
  have hFs : F ≤ s.size := by rw [hF]; split <;> omega
  have hdF : (L.drop i).drop (numS (L.drop i)) = L.drop F := by rw [drop_drop', hnS, ← hF]
  obtain ⟨P, hP⟩ : ∃ P, P = F + spn dgQ (L.drop F) := ⟨_, rfl⟩
  have ha := spn_le dgQ (L.drop F)
  rw [List.length_drop, hlen] at ha
  have hPs : P ≤ s.size := by omega
  have ha1 : 1 ≤ spn dgQ (L.drop F) := by
    rcases hd with hd | ⟨h45, hd⟩
    · have : ¬ s[i].toNat = 45 := by unfold dgQ at hd; simp at hd; omega
      have e : sg = false := by rw [← hsg]; simp; omega
      rw [hF, e, if_neg (by decide), Nat.add_zero, hli]
      exact spn_pos hd
    · have e : sg = true := by rw [← hsg]; simp; omega
      rw [hF, e, if_pos rfl]
      rw [← hL] at hd
      cases hl : L.drop (i + 1) with
      | nil => rw [hl] at hd; cases hd
      | cons c l => rw [hl] at hd; exact spn_pos hd
  have hdP : (L.drop i).drop (numS (L.drop i) + spn dgQ (L.drop F)) = L.drop P := by rw [drop_drop', hnS, hP, hF]; congr 1; omega
  obtain ⟨frc, hfrc⟩ : ∃ frc, frc = frcQ (L.drop P) := ⟨_, rfl⟩
  obtain ⟨EN, hEN⟩ : ∃ EN, EN = if frc = true then P + 1 + spn dgQ (L.drop (P + 1)) else P := ⟨_, rfl⟩
  have hb := spn_le dgQ (L.drop (P + 1))
  rw [List.length_drop, hlen] at hb
  have hfl : frc = true → P + 2 ≤ s.size := fun h => by
    rw [hfrc] at h
    have := frcQ_len h
    rw [List.length_drop, hlen] at this
    omega
  have hENs : EN ≤ s.size := by
    rw [hEN]
    cases hc : frc with
    | true => rw [if_pos rfl]; have := hfl hc; omega
    | false => rw [if_neg (by decide)]; exact hPs
  obtain ⟨pt, hpt⟩ : ∃ pt, pt = decide ((L.drop P).head? = some 46) := ⟨_, rfl⟩
  have hpt2 : ∀ h : P < s.size, frc = true → pt = decide (s[P].toNat = 46) := fun h _ => by
    rw [hpt, hL, data_drop s P h, Bool.eq_iff_iff, decide_eq_true_eq, decide_eq_true_eq]
    show some s[P] = some 46 ↔ _
    rw [Option.some.injEq, ← UInt8.toNat_inj]; rfl
  obtain ⟨fl, hfl2⟩ : ∃ fl, fl = (L.drop F).take (spn dgQ (L.drop F)) := ⟨_, rfl⟩
  obtain ⟨bl, hbl⟩ : ∃ bl, bl = if frc = true then (L.drop (P + 1)).take (spn dgQ (L.drop (P + 1))) else [] := ⟨_, rfl⟩
  have hfd : ∀ c ∈ fl, dgQ c = true := by rw [hfl2]; exact spn_take_all _ _
  have hbd : ∀ c ∈ bl, dgQ c = true := by
    rw [hbl]; split
    · exact spn_take_all _ _
    · intro c hc; cases hc
  have hfll : fl.length = P - F := by rw [hfl2, List.length_take, List.length_drop, hlen]; omega
  have hbll : frc = true → bl.length = EN - (P + 1) := fun h => by rw [hbl, if_pos h, hEN, if_pos h, List.length_take, List.length_drop, hlen]; omega
  obtain ⟨NN, hNN⟩ : ∃ NN, NN = if frc = true ∧ pt = true then s.extract F P ++ s.extract (P + 1) EN else s.extract F P := ⟨_, rfl⟩
  obtain ⟨DD, hDD⟩ : ∃ DD : ByteArray, DD = if frc = true then (if pt = true then ⟨#[49]⟩ ++ ⟨(Lib.repeatL [48] (EN - (P + 1))).toArray⟩ else s.extract (P + 1) EN) else ⟨#[49]⟩ := ⟨_, rfl⟩
  have exF : (s.extract F P).data.toList = fl := by rw [ext_list, ← hL, hfl2, hP]; congr 1; omega
  have exB : frc = true → (s.extract (P + 1) EN).data.toList = bl := fun h => by rw [ext_list, ← hL, hbl, if_pos h, hEN, if_pos h]; congr 1; omega
  have lNN : NN.data.toList = if frc = true ∧ pt = true then fl ++ bl else fl := by
    rw [hNN]; split
    · rename_i h; rw [bytes_app, exF, exB h.1]
    · exact exF
  have lDD : DD.data.toList = if frc = true then (if pt = true then 49 :: List.replicate bl.length 48 else bl) else [49] := by
    rw [hDD]; split
    · rename_i h
      split
      · rw [bytes_app, rep_eq, hbll h]; rfl
      · exact exB h
    · rfl
  have hNd : ∀ c ∈ NN.data.toList, dgQ c = true := by
    rw [lNN]; split
    · intro c hc
      rcases List.mem_append.1 hc with hc | hc
      · exact hfd c hc
      · exact hbd c hc
    · exact hfd
  obtain ⟨mk, hmk⟩ : ∃ mk : Nat, mk = if frc = true then (if pt = true then 46 else 47) else 0 := ⟨_, rfl⟩
  have hmkP : frc = true → ((L.drop P).headD 0).toNat = mk := fun h => by
    have h2 := hfl h
    have hlt : P < s.size := by omega
    have e := hpt2 hlt h
    rw [hmk, if_pos h]
    rw [hfrc] at h
    rw [hL, data_drop s P hlt] at h ⊢
    show s[P].toNat = _
    cases hl : s.data.toList.drop (P + 1) with
    | nil => rw [hl] at h; cases h
    | cons x l =>
      rw [hl] at h
      unfold frcQ at h
      simp only [Bool.and_eq_true, decide_eq_true_eq] at h
      rw [e]
      by_cases h46 : s[P].toNat = 46
      · rw [decide_eq_true h46, if_pos rfl]; exact h46
      · rw [decide_eq_false h46, if_neg (by decide)]; omega
  obtain ⟨ended, hended⟩ : ∃ ended, ended = endQ (L.drop EN) := ⟨_, rfl⟩
  -- what it reads, by its parts
  have hnum : numK (L.drop i) = numO (decide (sg = true)) fl mk bl ended (EN - i) := by
    unfold numK
    dsimp only
    have hneg : decide (numS (L.drop i) = 1) = decide (sg = true) := by rw [hnS]; cases sg <;> rfl
    rw [hdF, hdP, hneg, ← hfl2]
    cases hc : frc with
    | true =>
      have hc' : frcQ (L.drop P) = true := by rw [← hfrc]; exact hc
      rw [if_pos hc', drop_drop', drop_drop']
      have e1 : bl = (L.drop (P + 1)).take (spn dgQ (L.drop (P + 1))) := by rw [hbl, if_pos hc]
      have e2 : EN = P + (1 + spn dgQ (L.drop (P + 1))) := by rw [hEN, if_pos hc]; omega
      rw [← e1, ← e2, ← hended, hmkP hc]
      congr 1
      rw [hnS, hEN, if_pos hc, hP, hF]
      omega
    | false =>
      have hc' : ¬ frcQ (L.drop P) = true := by rw [← hfrc, hc]; decide
      rw [if_neg hc']
      have e1 : bl = [] := by rw [hbl, if_neg (by rw [hc]; decide)]
      have e2 : EN = P := by rw [hEN, if_neg (by rw [hc]; decide)]
      rw [e1, hmk, if_neg (by rw [hc]; decide), hended, e2]
      congr 1
      rw [hnS, hP, hF]
      omega
  obtain ⟨FO, hFO⟩ : ∃ FO, FO = ((decide (1 < P - F) && decide ((L.drop F).head? = some 48)) || (frc && !pt && decide ((L.drop (P + 1)).head? = some 48))) := ⟨_, rfl⟩
  obtain ⟨big, hbig⟩ : ∃ big, big = (decide (1000 < NN.size) || decide (1000 < DD.size)) := ⟨_, rfl⟩
  obtain ⟨tr, htr⟩ : ∃ tr : ByteArray, tr = ⟨(NN.data.toList.dropWhile (· == 48)).toArray⟩ := ⟨_, rfl⟩
  obtain ⟨nz, hnz⟩ : ∃ nz : ByteArray, nz = if tr.toList.isEmpty = true then ⟨#[48]⟩ else if sg = true then ⟨#[45]⟩ ++ tr else tr := ⟨_, rfl⟩
  have hflh : fl.head? = (L.drop F).head? := by
    rw [hfl2]
    cases hl : L.drop F with
    | nil => simp
    | cons c l =>
      rw [hl] at ha1
      obtain ⟨k, hk⟩ : ∃ k, spn dgQ (c :: l) = k + 1 := ⟨spn dgQ (c :: l) - 1, by omega⟩
      rw [hk]; rfl
  have hblh : frc = true → bl ≠ [] ∧ bl.head? = (L.drop (P + 1)).head? := fun h => by
    rw [hbl, if_pos h]
    have h2 := hfl h
    have hlt : P < s.size := by omega
    rw [hfrc, hL, data_drop s P hlt, ← hL] at h
    cases hl : L.drop (P + 1) with
    | nil => rw [hl] at h; cases h
    | cons c l =>
      rw [hl] at h
      have hc : dgQ c = true := by unfold frcQ at h; simp only [Bool.and_eq_true] at h; exact h.2
      obtain ⟨k, hk⟩ : ∃ k, spn dgQ (c :: l) = k + 1 := ⟨spn dgQ (c :: l) - 1, by have := spn_pos (r := l) hc; omega⟩
      rw [hk]; exact ⟨by simp, rfl⟩
  have hNs : NN.size = if frc = true ∧ pt = true then fl.length + bl.length else fl.length := by
    rw [← data_len, lNN]; split
    · rw [List.length_append]
    · rfl
  have hDs : DD.size = if frc = true then (if pt = true then 1 + bl.length else bl.length) else 1 := by
    rw [← data_len, lDD]; split
    · split
      · simp; omega
      · rfl
    · rfl
  have hFO2 : FO = true ↔ ((1 < fl.length ∧ fl.head? = some 48) ∨ (mk = 47 ∧ bl.head? = some 48)) := by
    rw [hFO, hfll, hflh]
    simp only [Bool.or_eq_true, Bool.and_eq_true, decide_eq_true_eq, Bool.not_eq_true']
    constructor
    · rintro (h | ⟨⟨h1, h2⟩, h3⟩)
      · exact .inl h
      · exact .inr ⟨by rw [hmk, if_pos h1, h2]; rfl, by rw [(hblh h1).2]; exact h3⟩
    · rintro (h | ⟨h1, h2⟩)
      · exact .inl h
      · cases hc : frc with
        | false => rw [hmk, hc] at h1; cases h1
        | true =>
          cases hp : pt with
          | true => rw [hmk, hc, hp] at h1; cases h1
          | false => exact .inr ⟨⟨rfl, rfl⟩, by rw [← (hblh hc).2]; exact h2⟩
  have hfl1 : 1 ≤ fl.length := by omega
  have hbig2 : big = true ↔ (1000 < fl.length ∨ (mk = 46 ∧ 1000 < fl.length + bl.length) ∨ 1000 < bl.length) := by
    rw [hbig]
    simp only [Bool.or_eq_true, decide_eq_true_eq]
    rw [hNs, hDs, hmk]
    cases hc : frc with
    | false =>
      have : bl.length = 0 := by rw [hbl, if_neg (by rw [hc]; decide)]; rfl
      simp
      omega
    | true =>
      cases hp : pt with
      | true => simp; omega
      | false => simp
  obtain ⟨res, hres⟩ : ∃ res, res = bsL (ratOf (decide (sg = true)) fl mk bl) := ⟨_, rfl⟩
  have hfin : numK (L.drop i) = if FO = true ∨ ended = false then .no 12 else if big = true then .no 14 else .yes ⟨3, bsL [], res, 0, 0⟩ (EN - i) := by
    rw [hnum]
    unfold numO
    by_cases h1 : FO = true ∨ ended = false
    · rw [if_pos h1, if_pos]
      rcases h1 with h1 | h1
      · rcases hFO2.1 h1 with h | h
        · exact .inl h
        · exact .inr (.inr h)
      · exact .inr (.inl h1)
    · rw [if_neg h1, if_neg]
      · by_cases h2 : big = true
        · rw [if_pos h2, if_pos (hbig2.1 h2)]
        · rw [if_neg h2, if_neg (fun a => h2 (hbig2.2 a)), hres]
      · rintro (h | h | h)
        · exact h1 (.inl (hFO2.2 (.inl h)))
        · exact h1 (.inr h)
        · exact h1 (.inl (hFO2.2 (.inr h)))
  rw [← hL, hfin]
  refine number_go s i F P EN NN DD tr nz res sg frc pt FO ended big w hs hi hsg hF hFs (by rw [← hL]; exact hP) hPs (by rw [← hL]; exact hfrc) hpt2 (by rw [← hL]; exact hEN) hENs (by omega)
    (by cases hc : frc with
      | false => exact .inr rfl
      | true => left; rw [hEN, if_pos hc]; omega) hNN hDD (by rw [← hL]; exact hFO) (by rw [← hL]; exact hended) hbig htr hnz (Lib.hid fun hFOf hbf W => ?_)
  -- Make
  have hb3 : ¬ (1000 < fl.length ∨ (mk = 46 ∧ 1000 < fl.length + bl.length) ∨ 1000 < bl.length) := fun a => by rw [hbig2.2 a] at hbf; cases hbf
  have hf3 : ¬ ((1 < fl.length ∧ fl.head? = some 48) ∨ (mk = 47 ∧ bl.head? = some 48)) := fun a => by rw [hFO2.2 a] at hFOf; cases hFOf
  have hNl : NN.data.toList.length ≤ 1000 := by
    rw [data_len, hNs]
    split
    · rename_i h
      have : mk = 46 := by rw [hmk, if_pos h.1, if_pos h.2]
      omega
    · omega
  obtain ⟨v1, v2⟩ := tail_val hNd hNl sg
  have hnzl : nz.data.toList = txtZ (if sg = true then -(numV NN.data.toList : Int) else (numV NN.data.toList : Int)) := by
    rw [← v1, hnz, toList_data, htr]
    show (if (NN.data.toList.dropWhile (· == 48)).isEmpty = true then (⟨#[48]⟩ : ByteArray) else if sg = true then ⟨#[45]⟩ ++ ⟨(NN.data.toList.dropWhile (· == 48)).toArray⟩ else ⟨(NN.data.toList.dropWhile (· == 48)).toArray⟩).data.toList = _
    by_cases he : NN.data.toList.dropWhile (· == 48) = []
    · rw [if_pos (by rw [he]; rfl), if_pos he]
    · rw [if_neg (by simpa using he), if_neg he]
      cases sg
      · rfl
      · rw [if_pos rfl, if_pos rfl, bytes_app]; rfl
  obtain ⟨Y, hY⟩ : ∃ Y : Nat, Y = if mk = 46 then 10 ^ bl.length else if mk = 47 then numV bl else 1 := ⟨_, rfl⟩
  obtain ⟨M, hM⟩ : ∃ M, M = 1000 := ⟨_, rfl⟩
  have hDl : DD.data.toList = txtZ (Y : Int) ∧ Y < 10 ^ M ∧ 0 < Y := by
    have tz : ∀ n : Nat, txtZ (n : Int) = txtN n := fun n => by unfold txtZ; rw [if_neg (by omega), Int.natAbs_natCast]
    rw [lDD, tz]
    cases hc : frc with
    | false =>
      have e : mk = 0 := by rw [hmk, if_neg (by rw [hc]; decide)]
      rw [hY, e, if_neg (by decide), if_neg (by decide), if_neg (by decide)]
      exact ⟨by rw [← tz]; exact txtZ_1.symm, Nat.one_lt_pow (by omega) (by omega), by decide⟩
    | true =>
      rw [if_pos rfl]
      cases hp : pt with
      | true =>
        have e : mk = 46 := by rw [hmk, if_pos hc, if_pos hp]
        rw [hY, e, if_pos rfl, if_pos rfl]
        exact ⟨txtN_ten _, Nat.pow_lt_pow_right (by omega) (by omega), Nat.pow_pos (by omega)⟩
      | false =>
        have e : mk = 47 := by rw [hmk, if_pos hc, if_neg (by rw [hp]; decide)]
        rw [hY, e, if_neg (by decide), if_neg (by decide), if_pos rfl]
        have hne := (hblh hc).1
        have h0 : bl.head? ≠ some 48 := fun a => hf3 (.inr ⟨e, a⟩)
        exact ⟨txtN_can hne hbd h0, Nat.lt_of_lt_of_le (numV_le bl fun c hcc => by have := hbd c hcc; unfold dgQ at this; simpa using this) (Nat.pow_le_pow_right (by omega) (by omega)), numV_pos hne hbd h0⟩
  obtain ⟨d1, d2, d3⟩ := hDl
  have hX : numV NN.data.toList = if mk = 46 then numV (fl ++ bl) else numV fl := by
    rw [lNN, hmk]
    cases hc : frc with
    | false => simp
    | true => cases hp : pt with
      | true => rw [if_pos ⟨rfl, rfl⟩]; rfl
      | false => rw [if_neg (by rintro ⟨_, h⟩; cases h)]; rfl
  have hdd : DD.size ≤ 100000 := by
    rw [hDs]; split
    · split <;> omega
    · omega
  have hnn : nz.size ≤ 100000 := by
    rw [← data_len, hnzl]
    have len : ∀ z : Int, bigZ z = false → (txtZ z).length ≤ 1001 := fun z h => by
      have := bigZ_false h
      unfold txtZ
      split <;> simp [txtN_len] <;> omega
    exact Nat.le_trans (len _ v2) (by omega)
  have := make_ok nz DD _ (Y : Int) W hnn hdd hnzl d1 v2 (bigZ_ten d2 (by omega) (by omega)) (by omega)
  refine this.mono fun e w' ⟨h1, h2⟩ => ⟨?_, h2⟩
  rw [h1, hres]
  unfold ratOf
  dsimp only
  rw [← hY, ← hX]
  have hsg2 : (if decide (sg = true) = true then -(numV NN.data.toList : Int) else (numV NN.data.toList : Int)) = (if sg = true then -(numV NN.data.toList : Int) else (numV NN.data.toList : Int)) := by cases sg <;> rfl
  rw [hsg2]
  rfl

end Go.Proofs.YtnmiiimbjojcmaaGreatDoor
