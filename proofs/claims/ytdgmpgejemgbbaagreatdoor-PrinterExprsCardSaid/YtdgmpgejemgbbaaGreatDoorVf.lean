/-
  The reference's Digits. No condition. The reference's Text. No condition. The reference's Check, Both, Gcd. No condition.
-/
import Derived.Test.YtdgmpgejemgbbaaGreatDoorVe
import Derived.Laws.IdiomStrings
namespace Go.Proofs.YtdgmpgejemgbbaaGreatDoor
open Go.RowKit

theorem rdZ_pos {l : List UInt8} (h : l.head? ≠ some 45) (hc : CanN l) : rdZ l = some (dval (undig l) : Int) := by
  unfold rdZ; rw [if_neg h]
  unfold rdN; rw [if_pos ((rdN_test l).2 hc)]; rfl
theorem rdZ_neg {l : List UInt8} (h : l.head? = some 45) (hc : CanN l.tail) (h0 : l.tail.head? ≠ some 48) : ∃ z : Int, rdZ l = some z ∧ z < 0 ∧ z.natAbs = dval (undig l.tail) := by
  have e := txtN_undig _ hc
  unfold rdZ; rw [if_pos h]
  unfold rdN; rw [if_pos ((rdN_test l.tail).2 hc)]
  cases hd : dval (undig l.tail) with
  | zero =>
    rw [hd] at e
    exfalso; apply h0; rw [← e]; rfl
  | succ n => exact ⟨_, rfl, by omega, by omega⟩
theorem rdZ_no {l : List UInt8} (h : l.head? ≠ some 45) (hc : ¬ CanN l) : rdZ l = none := by
  unfold rdZ; rw [if_neg h, rdN_none hc]; rfl
theorem rdZ_nog {l : List UInt8} (h : l.head? = some 45) (hc : ¬ CanN l.tail) : rdZ l = none := by
  unfold rdZ; rw [if_pos h, rdN_none hc]
theorem rdZ_no0 {l : List UInt8} (h : l.head? = some 45) (h0 : l.tail.head? = some 48) : rdZ l = none := by
  unfold rdZ; rw [if_pos h]
  cases e : rdN l.tail with
  | none => rfl
  | some n =>
    cases n with
    | zero => rfl
    | succ n =>
      exfalso
      have e := rdN_some e
      have hh := canN_txtN (n + 1)
      rw [← e] at hh
      have h1 := hh.2.2 h0
      have h2 : l.tail = [48] := by
        match hl : l.tail, h1 with
        | [c], _ => rw [hl] at h0; simp at h0; rw [h0]
      have : txtN (n + 1) = txtN 0 := by rw [← e, h2]; rfl
      have := txtN_inj this
      omega
theorem undig_drop (l : List UInt8) (k : Nat) (c : UInt8) (h : l[k]? = some c) : undig (l.drop (k + 1)) ++ [c.toNat - 48] = undig (l.drop k) := by
  have hk : k < l.length := (List.getElem?_eq_some_iff.1 h).1
  rw [List.drop_eq_getElem_cons hk]
  have : l[k] = c := by rw [List.getElem?_eq_getElem hk] at h; injection h
  unfold undig
  rw [this]
  simp
theorem decN_undig {l : List UInt8} (h : CanN l) : decN (dval (undig l)) = undig l := by
  have := congrArg undig (txtN_undig l h)
  rwa [undig_txtN] at this

/-- What Digits hands back. -/
def DigPost (w : World) (l : List UInt8) (e : Ending) (w' : World) : Prop :=
  (∃ z a n c, rdZ l = some z ∧ e = .returned (.tuple #[.slice a n c, .bool (decide (z < 0)), .bool true]) ∧ (decN z.natAbs).length = n ∧ n ≤ c ∧ Nums .i64 w' a (decN z.natAbs) ∧ Below w.heap.size w w') ∨
  (rdZ l = none ∧ e = .returned (.tuple #[.slice none 0 0, .bool false, .bool false]) ∧ Below w.heap.size w w')
/-- The loop: the bytes behind place i have been taken. -/
def DgR (w : World) (t : ByteArray) (n : Nat) (o iv : Value) (wr : World) : Prop :=
  ∃ i : Nat, i ≤ n ∧ iv = .int .i64 ((i : Int) - 1) ∧ wr.ownsRow w.heap.size 3 1 o (n - i) (nums .i64 (undig (t.data.toList.drop i))) ∧ (∀ c ∈ t.data.toList.drop i, 48 ≤ c.toNat ∧ c.toNat ≤ 57) ∧ Below w.heap.size w wr
theorem dgR_start (w : World) (t : ByteArray) (n : Nat) (h : t.size = n) : DgR w t n (.slice none 0 0) (.int .i64 ((n : Int) - 1)) w := by
  refine ⟨n, Nat.le_refl _, rfl, ?_, ?_, Below.refl _ _⟩
  · rw [List.drop_eq_nil_of_le (by rw [data_len]; omega), Nat.sub_self]
    exact World.ownsRow_nil _ _ _ _
  · rw [List.drop_eq_nil_of_le (by rw [data_len]; omega)]; simp
theorem data_drop (s : ByteArray) (k : Nat) (h : k < s.size) : s.data.toList.drop k = s[k] :: s.data.toList.drop (k + 1) := by
  rw [List.drop_eq_getElem_cons (by rw [data_len]; exact h)]
  congr 1

set_option maxHeartbeats 4000000 in
set_option maxRecDepth 100000 in
theorem digits_neg_loop (s : ByteArray) (w : World) (hs : s.size ≤ 1000000) (h0 : 0 < s.size) (h1 : ((s[0].toNat : Int) == 45) = true)
    (h2 : 0 < s.size - 1) (a5 : (((s.size - 1 : Nat) : Int) == 0) = false) (a3 : (((s.extract 1 s.size)[0]'(by simp; omega)).toNat == (48 : Int)) = false)
    (HT : Hid ((s.extract 1 s.size).size = s.size - 1)) (HS : Hid (DgR w (s.extract 1 s.size) (s.size - 1) (.slice none 0 0) (.int .i64 (((s.size - 1 : Nat) : Int) - 1)) w))
    (HE : Hid (∀ c, c ∈ (s.extract 1 s.size).data.toList → ¬ (48 ≤ c.toNat ∧ c.toNat ≤ 57) → rdZ s.data.toList = none))
    (HC : Hid ((∀ c ∈ (s.extract 1 s.size).data.toList, 48 ≤ c.toNat ∧ c.toNat ≤ 57) → ∃ z, rdZ s.data.toList = some z ∧ decN z.natAbs = undig (s.extract 1 s.size).data.toList ∧ decide (z < 0) = true)) :
    Calls Tryz.prog 55 #[.string s] w (DigPost w s.data.toList) := by
  obtain ⟨i0, hi, hz0, hz1, hz2⟩ := info_parts infoInt
  go_enter Tryz.func55, Tryz.ntmps55
  go_wp2_with fail
  go_loopw [7, 8] (DgR w (s.extract 1 s.size) (s.size - 1)) (fun _ i _ => (intOf i + 1).toNat)
  case atStart => exact HS.out
  case round =>
    obtain ⟨i, hin, rfl, ho, hd, hb⟩ := hrel
    have HD := Lib.hid hd
    obtain ⟨D, hD⟩ : ∃ D, D = undig ((s.extract 1 s.size).data.toList.drop i) := ⟨_, rfl⟩
    rw [← hD] at ho
    have HDD := Lib.hid hD
    have HO := Lib.hid ho
    have HB := Lib.hid hb
    clear hd ho hb hD
    by_cases hi0 : 1 ≤ i
    · obtain ⟨k, rfl⟩ : ∃ k, i = k + 1 := ⟨i - 1, by omega⟩
      have hlt : k < s.size - 1 := by omega
      have hlt' : k < (s.extract 1 s.size).size := by have := HT.out; omega
      rw [show (((k + 1 : Nat) : Int) - 1) = (k : Int) by omega]
      by_cases hc : 48 ≤ (s.extract 1 s.size)[k].toNat ∧ (s.extract 1 s.size)[k].toNat ≤ 57
      · have HN : Hid (∀ c ∈ (s.extract 1 s.size).data.toList.drop k, 48 ≤ c.toNat ∧ c.toNat ≤ 57) := by
          show ∀ c ∈ _, _
          rw [data_drop _ k hlt']
          intro c hcm
          rcases List.mem_cons.1 hcm with rfl | hcm
          · exact hc
          · exact HD.out c hcm
        have HU := Lib.hid (undig_drop (s.extract 1 s.size).data.toList k _ (Lib.data_getElem? _ k hlt'))
        obtain ⟨x, hx⟩ : ∃ x, x = (s.extract 1 s.size)[k].toNat - 48 := ⟨_, rfl⟩
        rw [← hx] at HU
        have hx1 : (((s.extract 1 s.size)[k].toNat : Int) - 48) = (x : Int) := by omega
        have hx2 : x < 10 := by omega
        have HX := Lib.hid hx1
        clear hx hx1
        obtain ⟨c1, c2⟩ := hc
        go_wp2_with (at_builtin; refine wpList_append1 _ rfl (.tmp 54) (.tmp 60) 78 rfl w.heap.size 3 i0 (.int .i64 0) 8 Tryz.underlying78 hi hz0 hz1 hz2 rfl _ _ _ rfl (HO.out.alloc _) ⟨wr.heap.size, 0, none⟩ 1 (.int .i64 x) rfl ?c1 rfl ?c3 ?c4 ?c5 ?_)
        case c1 => rw [← HX.out]; simp
        case c3 => unfold maxLen; omega
        case c4 => omega
        case c5 => have := HB.out.size; simp; omega
        intro v1 w1 ho1 hg1 hne1 hpl1
        have n1 : Below w.heap.size w w1 := (HB.out.alloc HB.out.size _).grown hg1 (by have := HB.out.size; simp; omega) (fun k hk => (HO.out.lt k hk).1)
        rw [nums_snoc, HDD.out, HU.out, show s.size - 1 - (k + 1) + 1 = s.size - 1 - k by omega] at ho1
        have HO1 := Lib.hid ho1
        have N1 := Lib.hid n1
        clear ho1 n1 hg1 hne1 hpl1
        go_wp2_with fail
        go_roundw
        case rel => exact ⟨k, by omega, rfl, HO1.out, HN.out, N1.out⟩
        case measure => simp [intOf] <;> omega
      · have e4 := Lib.hid (HE.out _ (data_mem _ k hlt') hc)
        have hc' : (s.extract 1 s.size)[k].toNat < 48 ∨ 57 < (s.extract 1 s.size)[k].toNat := by omega
        clear hc
        rcases hc' with c1 | c1
        · go_wp2_with fail
          go_ret3
          exact .inr ⟨e4.out, rfl, HB.out⟩
        · go_wp2_with fail
          go_ret3
          exact .inr ⟨e4.out, rfl, HB.out⟩
    · obtain rfl : i = 0 := by omega
      have e4 := HC.out (by have := HD.out; rwa [List.drop_zero] at this)
      have ho := HO.out
      rw [HDD.out, List.drop_zero, Nat.sub_zero] at ho
      have E4 := Lib.hid e4
      have HO2 := Lib.hid ho
      clear e4 ho
      go_wp2_with fail
      go_ret3
      obtain ⟨z, e1, e2, e3⟩ := E4.out
      obtain ⟨a, c, hv, hl, hnc, hnm⟩ := nums_of_owns HO2.out
      rw [← e2] at hl hnm
      exact .inl ⟨z, a, s.size - 1, c, e1, by rw [hv, e3]; rfl, hl, hnc, hnm, HB.out⟩

set_option maxHeartbeats 4000000 in
set_option maxRecDepth 100000 in
theorem digits_pos_loop (s : ByteArray) (w : World) (hs : s.size ≤ 1000000) (h0 : 0 < s.size) (h1 : ((s[0].toNat : Int) == 45) = false)
    (a5 : ((s.size : Int) == 0) = false) (a3 : ((s[0].toNat : Int) == 48) = false)
    (HT : Hid ((s).size = s.size)) (HS : Hid (DgR w (s) (s.size) (.slice none 0 0) (.int .i64 (((s.size : Nat) : Int) - 1)) w))
    (HE : Hid (∀ c, c ∈ (s).data.toList → ¬ (48 ≤ c.toNat ∧ c.toNat ≤ 57) → rdZ s.data.toList = none))
    (HC : Hid ((∀ c ∈ (s).data.toList, 48 ≤ c.toNat ∧ c.toNat ≤ 57) → ∃ z, rdZ s.data.toList = some z ∧ decN z.natAbs = undig (s).data.toList ∧ decide (z < 0) = false)) :
    Calls Tryz.prog 55 #[.string s] w (DigPost w s.data.toList) := by
  obtain ⟨i0, hi, hz0, hz1, hz2⟩ := info_parts infoInt
  go_enter Tryz.func55, Tryz.ntmps55
  go_wp2_with fail
  go_loopw [7, 8] (DgR w (s) (s.size)) (fun _ i _ => (intOf i + 1).toNat)
  case atStart => exact HS.out
  case round =>
    obtain ⟨i, hin, rfl, ho, hd, hb⟩ := hrel
    have HD := Lib.hid hd
    obtain ⟨D, hD⟩ : ∃ D, D = undig ((s).data.toList.drop i) := ⟨_, rfl⟩
    rw [← hD] at ho
    have HDD := Lib.hid hD
    have HO := Lib.hid ho
    have HB := Lib.hid hb
    clear hd ho hb hD
    by_cases hi0 : 1 ≤ i
    · obtain ⟨k, rfl⟩ : ∃ k, i = k + 1 := ⟨i - 1, by omega⟩
      have hlt : k < s.size := by omega
      have hlt' : k < (s).size := by have := HT.out; omega
      rw [show (((k + 1 : Nat) : Int) - 1) = (k : Int) by omega]
      by_cases hc : 48 ≤ (s)[k].toNat ∧ (s)[k].toNat ≤ 57
      · have HN : Hid (∀ c ∈ (s).data.toList.drop k, 48 ≤ c.toNat ∧ c.toNat ≤ 57) := by
          show ∀ c ∈ _, _
          rw [data_drop _ k hlt']
          intro c hcm
          rcases List.mem_cons.1 hcm with rfl | hcm
          · exact hc
          · exact HD.out c hcm
        have HU := Lib.hid (undig_drop (s).data.toList k _ (Lib.data_getElem? _ k hlt'))
        obtain ⟨x, hx⟩ : ∃ x, x = (s)[k].toNat - 48 := ⟨_, rfl⟩
        rw [← hx] at HU
        have hx1 : (((s)[k].toNat : Int) - 48) = (x : Int) := by omega
        have hx2 : x < 10 := by omega
        have HX := Lib.hid hx1
        clear hx hx1
        obtain ⟨c1, c2⟩ := hc
        go_wp2_with (at_builtin; refine wpList_append1 _ rfl (.tmp 54) (.tmp 60) 78 rfl w.heap.size 3 i0 (.int .i64 0) 8 Tryz.underlying78 hi hz0 hz1 hz2 rfl _ _ _ rfl (HO.out.alloc _) ⟨wr.heap.size, 0, none⟩ 1 (.int .i64 x) rfl ?c1 rfl ?c3 ?c4 ?c5 ?_)
        case c1 => rw [← HX.out]; simp
        case c3 => unfold maxLen; omega
        case c4 => omega
        case c5 => have := HB.out.size; simp; omega
        intro v1 w1 ho1 hg1 hne1 hpl1
        have n1 : Below w.heap.size w w1 := (HB.out.alloc HB.out.size _).grown hg1 (by have := HB.out.size; simp; omega) (fun k hk => (HO.out.lt k hk).1)
        rw [nums_snoc, HDD.out, HU.out, show s.size - (k + 1) + 1 = s.size - k by omega] at ho1
        have HO1 := Lib.hid ho1
        have N1 := Lib.hid n1
        clear ho1 n1 hg1 hne1 hpl1
        go_wp2_with fail
        go_roundw
        case rel => exact ⟨k, by omega, rfl, HO1.out, HN.out, N1.out⟩
        case measure => simp [intOf] <;> omega
      · have e4 := Lib.hid (HE.out _ (data_mem _ k hlt') hc)
        have hc' : (s)[k].toNat < 48 ∨ 57 < (s)[k].toNat := by omega
        clear hc
        rcases hc' with c1 | c1
        · go_wp2_with fail
          go_ret3
          exact .inr ⟨e4.out, rfl, HB.out⟩
        · go_wp2_with fail
          go_ret3
          exact .inr ⟨e4.out, rfl, HB.out⟩
    · obtain rfl : i = 0 := by omega
      have e4 := HC.out (by have := HD.out; rwa [List.drop_zero] at this)
      have ho := HO.out
      rw [HDD.out, List.drop_zero, Nat.sub_zero] at ho
      have E4 := Lib.hid e4
      have HO2 := Lib.hid ho
      clear e4 ho
      go_wp2_with fail
      go_ret3
      obtain ⟨z, e1, e2, e3⟩ := E4.out
      obtain ⟨a, c, hv, hl, hnc, hnm⟩ := nums_of_owns HO2.out
      rw [← e2] at hl hnm
      exact .inl ⟨z, a, s.size, c, e1, by rw [hv, e3]; rfl, hl, hnc, hnm, HB.out⟩

set_option maxHeartbeats 4000000 in
set_option maxRecDepth 100000 in
theorem digits_zero_loop (s : ByteArray) (w : World) (hs : s.size ≤ 1) (h0 : 0 < s.size) (h1 : ((s[0].toNat : Int) == 45) = false)
    (a3 : ((s[0].toNat : Int) == 48) = true)
    (HT : Hid ((s).size = s.size)) (HS : Hid (DgR w (s) (s.size) (.slice none 0 0) (.int .i64 (((s.size : Nat) : Int) - 1)) w))
    (HE : Hid (∀ c, c ∈ (s).data.toList → ¬ (48 ≤ c.toNat ∧ c.toNat ≤ 57) → rdZ s.data.toList = none))
    (HC : Hid ((∀ c ∈ (s).data.toList, 48 ≤ c.toNat ∧ c.toNat ≤ 57) → ∃ z, rdZ s.data.toList = some z ∧ decN z.natAbs = undig (s).data.toList ∧ decide (z < 0) = false)) :
    Calls Tryz.prog 55 #[.string s] w (DigPost w s.data.toList) := by
  obtain ⟨i0, hi, hz0, hz1, hz2⟩ := info_parts infoInt
  have a5 : ((s.size : Int) == 0) = false := by rw [beq_eq_false_iff_ne]; omega
  have a4 : decide ((1 : Int) < (s.size : Int)) = false := by simp; omega
  go_enter Tryz.func55, Tryz.ntmps55
  go_wp2_with fail
  go_loopw [7, 8] (DgR w (s) (s.size)) (fun _ i _ => (intOf i + 1).toNat)
  case atStart => exact HS.out
  case round =>
    obtain ⟨i, hin, rfl, ho, hd, hb⟩ := hrel
    have HD := Lib.hid hd
    obtain ⟨D, hD⟩ : ∃ D, D = undig ((s).data.toList.drop i) := ⟨_, rfl⟩
    rw [← hD] at ho
    have HDD := Lib.hid hD
    have HO := Lib.hid ho
    have HB := Lib.hid hb
    clear hd ho hb hD
    by_cases hi0 : 1 ≤ i
    · obtain ⟨k, rfl⟩ : ∃ k, i = k + 1 := ⟨i - 1, by omega⟩
      have hlt : k < s.size := by omega
      have hlt' : k < (s).size := by have := HT.out; omega
      rw [show (((k + 1 : Nat) : Int) - 1) = (k : Int) by omega]
      by_cases hc : 48 ≤ (s)[k].toNat ∧ (s)[k].toNat ≤ 57
      · have HN : Hid (∀ c ∈ (s).data.toList.drop k, 48 ≤ c.toNat ∧ c.toNat ≤ 57) := by
          show ∀ c ∈ _, _
          rw [data_drop _ k hlt']
          intro c hcm
          rcases List.mem_cons.1 hcm with rfl | hcm
          · exact hc
          · exact HD.out c hcm
        have HU := Lib.hid (undig_drop (s).data.toList k _ (Lib.data_getElem? _ k hlt'))
        obtain ⟨x, hx⟩ : ∃ x, x = (s)[k].toNat - 48 := ⟨_, rfl⟩
        rw [← hx] at HU
        have hx1 : (((s)[k].toNat : Int) - 48) = (x : Int) := by omega
        have hx2 : x < 10 := by omega
        have HX := Lib.hid hx1
        clear hx hx1
        obtain ⟨c1, c2⟩ := hc
        go_wp2_with (at_builtin; refine wpList_append1 _ rfl (.tmp 54) (.tmp 60) 78 rfl w.heap.size 3 i0 (.int .i64 0) 8 Tryz.underlying78 hi hz0 hz1 hz2 rfl _ _ _ rfl (HO.out.alloc _) ⟨wr.heap.size, 0, none⟩ 1 (.int .i64 x) rfl ?c1 rfl ?c3 ?c4 ?c5 ?_)
        case c1 => rw [← HX.out]; simp
        case c3 => unfold maxLen; omega
        case c4 => omega
        case c5 => have := HB.out.size; simp; omega
        intro v1 w1 ho1 hg1 hne1 hpl1
        have n1 : Below w.heap.size w w1 := (HB.out.alloc HB.out.size _).grown hg1 (by have := HB.out.size; simp; omega) (fun k hk => (HO.out.lt k hk).1)
        rw [nums_snoc, HDD.out, HU.out, show s.size - (k + 1) + 1 = s.size - k by omega] at ho1
        have HO1 := Lib.hid ho1
        have N1 := Lib.hid n1
        clear ho1 n1 hg1 hne1 hpl1
        go_wp2_with fail
        go_roundw
        case rel => exact ⟨k, by omega, rfl, HO1.out, HN.out, N1.out⟩
        case measure => simp [intOf] <;> omega
      · have e4 := Lib.hid (HE.out _ (data_mem _ k hlt') hc)
        have hc' : (s)[k].toNat < 48 ∨ 57 < (s)[k].toNat := by omega
        clear hc
        rcases hc' with c1 | c1
        · go_wp2_with fail
          go_ret3
          exact .inr ⟨e4.out, rfl, HB.out⟩
        · go_wp2_with fail
          go_ret3
          exact .inr ⟨e4.out, rfl, HB.out⟩
    · obtain rfl : i = 0 := by omega
      have e4 := HC.out (by have := HD.out; rwa [List.drop_zero] at this)
      have ho := HO.out
      rw [HDD.out, List.drop_zero, Nat.sub_zero] at ho
      have E4 := Lib.hid e4
      have HO2 := Lib.hid ho
      clear e4 ho
      go_wp2_with fail
      go_ret3
      obtain ⟨z, e1, e2, e3⟩ := E4.out
      obtain ⟨a, c, hv, hl, hnc, hnm⟩ := nums_of_owns HO2.out
      rw [← e2] at hl hnm
      exact .inl ⟨z, a, s.size, c, e1, by rw [hv, e3]; rfl, hl, hnc, hnm, HB.out⟩

set_option maxHeartbeats 4000000 in
set_option maxRecDepth 100000 in
theorem digits_empty (s : ByteArray) (w : World) (h0 : s.size = 0) (_a5 : ((s.size : Int) == 0) = true) (HE : Hid (rdZ s.data.toList = none)) : Calls Tryz.prog 55 #[.string s] w (DigPost w s.data.toList) := by
  go_enter Tryz.func55, Tryz.ntmps55
  go_wp2_with fail
  go_ret3
  exact .inr ⟨HE.out, rfl, Below.refl _ _⟩
set_option maxHeartbeats 4000000 in
set_option maxRecDepth 100000 in
theorem digits_long_zero (s : ByteArray) (w : World) (h0 : 1 < s.size) (h1 : ((s[0].toNat : Int) == 45) = false) (a3 : ((s[0].toNat : Int) == 48) = true) (HE : Hid (rdZ s.data.toList = none)) : Calls Tryz.prog 55 #[.string s] w (DigPost w s.data.toList) := by
  have a5 : ((s.size : Int) == 0) = false := by rw [beq_eq_false_iff_ne]; omega
  go_enter Tryz.func55, Tryz.ntmps55
  go_wp2_with fail
  go_ret3
  exact .inr ⟨HE.out, rfl, Below.refl _ _⟩
set_option maxHeartbeats 4000000 in
set_option maxRecDepth 100000 in
theorem digits_neg_empty (s : ByteArray) (w : World) (h0 : 0 < s.size) (_h2 : s.size - 1 < 1) (a5 : (((s.size - 1 : Nat) : Int) == 0) = true) (h1 : ((s[0].toNat : Int) == 45) = true) (HE : Hid (rdZ s.data.toList = none)) : Calls Tryz.prog 55 #[.string s] w (DigPost w s.data.toList) := by
  go_enter Tryz.func55, Tryz.ntmps55
  go_wp2_with fail
  go_ret3
  exact .inr ⟨HE.out, rfl, Below.refl _ _⟩
set_option maxHeartbeats 4000000 in
set_option maxRecDepth 100000 in
theorem digits_neg_zero (s : ByteArray) (w : World) (h0 : 0 < s.size) (h1 : ((s[0].toNat : Int) == 45) = true)
    (h2 : 0 < s.size - 1) (a5 : (((s.size - 1 : Nat) : Int) == 0) = false) (a3 : (((s.extract 1 s.size)[0]'(by simp; omega)).toNat == (48 : Int)) = true) (HE : Hid (rdZ s.data.toList = none)) : Calls Tryz.prog 55 #[.string s] w (DigPost w s.data.toList) := by
  go_enter Tryz.func55, Tryz.ntmps55
  go_wp2_with fail
  all_goals
    go_ret3
    exact .inr ⟨HE.out, rfl, Below.refl _ _⟩

theorem digits_any (s : ByteArray) (w : World) (hs : s.size ≤ 1000000) : Calls Tryz.prog 55 #[.string s] w (DigPost w s.data.toList) := by
  by_cases h0 : s.size = 0
  · refine digits_empty s w h0 (by rw [h0]; rfl) ?_
    have : s.data.toList = [] := List.eq_nil_of_length_eq_zero (by rw [data_len]; exact h0)
    show _ = _
    rw [this]; rfl
  · have h0 : 0 < s.size := by omega
    cases h1 : ((s[0].toNat : Int) == 45) with
    | true =>
      have H45 := head_of h0 (n := 45) (by omega) h1
      have HT : (s.extract 1 s.size).size = s.size - 1 := by simp
      have ht := tail_data s
      by_cases h2 : s.size = 1
      · refine digits_neg_empty s w h0 (by omega) (by rw [h2]; rfl) h1 (rdZ_nog H45 ?_)
        have : s.data.toList.tail = [] := List.eq_nil_of_length_eq_zero (by rw [List.length_tail, data_len]; omega)
        rw [this]; exact fun h => h.1 rfl
      · have h2 : 0 < s.size - 1 := by omega
        have a5 : (((s.size - 1 : Nat) : Int) == 0) = false := by rw [beq_eq_false_iff_ne]; omega
        have h2' : 0 < (s.extract 1 s.size).size := by omega
        cases a3 : (((s.extract 1 s.size)[0].toNat : Int) == 48) with
        | true =>
          have hd := head_of h2' (n := 48) (by omega) a3
          exact digits_neg_zero s w h0 h1 h2 a5 a3 (rdZ_no0 H45 (by rw [← ht]; exact hd))
        | false =>
          have hd := head_not h2' (n := 48) (by omega) a3
          have hne : (s.extract 1 s.size).data.toList ≠ [] := fun h => by have := data_len (s.extract 1 s.size); rw [h] at this; simp at this; omega
          refine digits_neg_loop s w hs h0 h1 h2 a5 a3 HT (dgR_start w _ _ HT) (fun c hc hn => rdZ_nog H45 (fun h => hn (h.2.1 c (by rw [← ht]; exact hc)))) (fun h => ?_)
          have hcan : CanN s.data.toList.tail := by rw [← ht]; exact ⟨hne, h, fun h48 => absurd h48 hd⟩
          obtain ⟨z, e1, e2, e3⟩ := rdZ_neg H45 hcan (by rw [← ht]; exact hd)
          exact ⟨z, e1, by rw [e3, ht, decN_undig hcan], by simpa using e2⟩
    | false =>
      have hh := head_not h0 (n := 45) (by omega) h1
      have hne : s.data.toList ≠ [] := fun h => by have := data_len s; rw [h] at this; simp at this; omega
      have hfin : ∀ (h : CanN s.data.toList), ∃ z, rdZ s.data.toList = some z ∧ decN z.natAbs = undig s.data.toList ∧ decide (z < 0) = false := fun h =>
        ⟨_, rdZ_pos hh h, by rw [Int.natAbs_natCast, decN_undig h], by simp⟩
      have hbad : ∀ c, c ∈ s.data.toList → ¬ (48 ≤ c.toNat ∧ c.toNat ≤ 57) → rdZ s.data.toList = none := fun c hc hn => rdZ_no hh (fun h => hn (h.2.1 c hc))
      cases a3 : ((s[0].toNat : Int) == 48) with
      | true =>
        have hd := head_of h0 (n := 48) (by omega) a3
        by_cases h2 : 1 < s.size
        · exact digits_long_zero s w h2 h1 a3 (rdZ_no hh (fun h => by have := h.2.2 hd; rw [data_len] at this; omega))
        · exact digits_zero_loop s w (by omega) h0 h1 a3 rfl (dgR_start w _ _ rfl) hbad (fun h => hfin ⟨hne, h, fun _ => by rw [data_len]; omega⟩)
      | false =>
        have hd := head_not h0 (n := 48) (by omega) a3
        exact digits_pos_loop s w hs h0 h1 (by rw [beq_eq_false_iff_ne]; omega) a3 rfl (dgR_start w _ _ rfl) hbad (fun h => hfin ⟨hne, h, fun h48 => absurd h48 hd⟩)

end Go.Proofs.YtdgmpgejemgbbaaGreatDoor

namespace Go.Proofs.YtdgmpgejemgbbaaGreatDoor
open Go.RowKit

theorem txtZ_neg {n : Nat} (h : 0 < n) : txtZ (-(n : Int)) = 45 :: txtN n := by
  unfold txtZ; rw [if_pos (by omega), Int.natAbs_neg, Int.natAbs_natCast]
theorem txtZ_pos (n : Nat) : txtZ (n : Int) = txtN n := by
  unfold txtZ; rw [if_neg (by omega), Int.natAbs_natCast]
theorem top_dig (l : List Nat) (k : Nat) (hk : k + 1 ≤ l.length) (d : ∀ x ∈ l, x < 10) (h : dval (l.take (k + 1)) = dval l) (h0 : l.getD k 0 ≠ 0) : decN (dval l) = l.take (k + 1) ∧ 0 < dval l := by
  have hD : Dig (l.take (k + 1)) := by
    refine ⟨fun x hx => d x (List.mem_of_mem_take hx), ?_⟩
    rw [List.take_add_one, List.getElem?_eq_getElem (by omega)]
    simp only [Option.toList_some, List.getLast?_concat]
    rw [List.getD_eq_getElem?_getD, List.getElem?_eq_getElem (by omega)] at h0
    simpa using h0
  have e := decL_dval _ hD
  rw [h] at e
  have hne : dval l ≠ 0 := by
    intro hz
    rw [hz, decL_zero] at e
    have := congrArg List.length e
    rw [List.length_take] at this
    simp at this; omega
  exact ⟨by unfold decN; rw [if_neg hne, e], by omega⟩
/-- The bytes that Text lays: the sign, and the digits from the top down to place i. -/
def txtP (neg : Bool) (l : List Nat) (i : Nat) : List UInt8 := (if neg then [45] else []) ++ (l.drop i).reverse.map dgB
theorem txtP_start (neg : Bool) (l : List Nat) : txtP neg l l.length = if neg then [45] else [] := by simp [txtP]
theorem txtP_step (neg : Bool) (l : List Nat) (i : Nat) (h : i < l.length) : txtP neg l (i + 1) ++ [dgB (l.getD i 0)] = txtP neg l i := by
  unfold txtP
  have : l.drop i = l.getD i 0 :: l.drop (i + 1) := by
    rw [List.drop_eq_getElem_cons h, List.getD_eq_getElem?_getD, List.getElem?_eq_getElem h]; rfl
  rw [this]; simp
theorem txtP_end (neg : Bool) (V : Nat) (h : 0 < V) : txtP neg (decN V) 0 = txtZ (if neg then -(V : Int) else (V : Int)) := by
  unfold txtP
  cases neg
  · simp [txtZ_pos, txtN]
  · simp [txtZ_neg h, txtN]
theorem txtP_len (neg : Bool) (l : List Nat) (i : Nat) (h : i ≤ l.length) : (txtP neg l i).length ≤ l.length + 1 - i := by
  unfold txtP; cases neg <;> simp <;> omega

theorem infoU8 : (Tryz.prog.info? 5).map (fun i => (i.zero, i.size, i.bytes)) = some (some (.int .u8 0), 1, 1) := by kernel_rfl
/-- Bytes as cells. -/
def bytesV (l : List UInt8) : List Value := l.map fun b : UInt8 => Value.int .u8 (b.toNat : Int)
theorem bytesV_length (l : List UInt8) : (bytesV l).length = l.length := by simp [bytesV]
theorem bytesV_snoc (l : List UInt8) (b : UInt8) : bytesV l ++ [.int .u8 (b.toNat : Int)] = bytesV (l ++ [b]) := by simp [bytesV]
theorem bytesV_get (l : List UInt8) (i : Nat) (h : i < l.length) : (bytesV l)[i]? = some (.int .u8 (l[i].toNat : Int)) := by
  simp [bytesV, List.getElem?_eq_getElem h]
/-- string(b) of bytes that the call owns. -/
theorem conv_own {w : World} {B : Nat} {v : Value} {n : Nat} {l : List UInt8} (h : w.ownsRow B 5 1 v n (bytesV l)) (dst : TypeId) (hd : Tryz.prog.underlying dst = some .string) :
    (convert 43 dst v).run Tryz.prog w = .ok (.string ⟨l.toArray⟩) w := by
  have hn : l.length = n := by have := h.1; rw [bytesV_length] at this; omega
  rcases rowAt_of_owns h with ⟨rfl, hz, _⟩ | ⟨g, c, rfl, _, hc, _, _, hr⟩
  · rw [run_convert_bytes_nil w 43 5 Tryz.underlying43 Tryz.underlying5 0 0 dst hd]
    rw [List.eq_nil_of_length_eq_zero (hn.trans hz)]; rfl
  · have := run_convert_bytes_back (P := Tryz.prog) w 43 dst 5 ⟨g, 0, none⟩ c l Tryz.underlying43 Tryz.underlying5 hd (fun j hj => by
      rw [add_plain, Nat.zero_add, hr.cell (by rw [bytesV_length]; exact hj), bytesV_get l j hj])
    rw [hn] at this
    exact this

/-- A text is handed back. -/
def StrPost (w : World) (l : List UInt8) (e : Ending) (w' : World) : Prop := e = .returned (.string ⟨l.toArray⟩) ∧ Below w.heap.size w w'
def TrimT (la : List Nat) (n : Nat) (v : Value) : Prop := ∃ k : Nat, k ≤ n ∧ v = .int .i64 (k : Int) ∧ dval (la.take k) = dval la
def TxtR (w : World) (neg : Bool) (D : List Nat) (o iv : Value) (wr : World) : Prop :=
  ∃ i : Nat, i ≤ D.length ∧ iv = .int .i64 ((i : Int) - 1) ∧ wr.ownsRow w.heap.size 5 1 o (txtP neg D i).length (bytesV (txtP neg D i)) ∧ Below w.heap.size w wr

set_option maxHeartbeats 4000000 in
set_option maxRecDepth 100000 in
theorem text_any (a : Option Addr) (n c : Nat) (la : List Nat) (neg : Bool) (w : World) (hla : la.length = n) (hn : n ≤ 900000) (da : ∀ x ∈ la, x < 10) (ha : Nums .i64 w a la) :
    Calls Tryz.prog 72 #[.slice a n c, .bool neg] w (StrPost w (txtZ (if neg then -(dval la : Int) else (dval la : Int)))) := by
  obtain ⟨i0, hi, hz0, hz1, hz2⟩ := info_parts infoU8
  have HLA := Lib.hid hla
  have HA := Lib.hid ha
  have DA := Lib.hid da
  clear hla ha da
  obtain ⟨Z, hZ⟩ : ∃ Z, Z = txtZ (if neg then -(dval la : Int) else (dval la : Int)) := ⟨_, rfl⟩
  rw [← hZ]
  have HZ := Lib.hid hZ
  clear hZ
  go_enter Tryz.func72, Tryz.ntmps72
  go_wp2_with fail
  go_loop [5] (TrimT la n) (fun v => (intOf v).toNat)
  case atStart => exact ⟨n, Nat.le_refl _, rfl, by rw [List.take_of_length_le (by have := HLA.out; omega)]⟩
  case round =>
    obtain ⟨k, hk, rfl, hv⟩ := hrel
    have HV := Lib.hid hv
    clear hv
    by_cases hk0 : 1 ≤ k
    · obtain ⟨j, rfl⟩ : ∃ j, k = j + 1 := ⟨k - 1, by omega⟩
      obtain ⟨g, o, rfl, hg, hc⟩ := HA.out j (by have := HLA.out; omega)
      obtain ⟨y, hy⟩ : ∃ y, y = la.getD j 0 := ⟨_, rfl⟩
      rw [← hy] at hc
      rw [show ((j + 1 : Nat) : Int) = (j : Int) + 1 by omega]
      by_cases hy0 : y = 0
      · have hn := dtrim_step la j HV.out (by rw [← hy]; exact hy0)
        have t1 : ((y : Int) == 0) = true := by rw [beq_iff_eq]; omega
        have HN := Lib.hid hn
        clear hn hy hy0
        go_wp2_with fail
        go_round
        case rel => exact ⟨j, by omega, rfl, HN.out⟩
        case measure => simp [intOf] <;> omega
      · have htop := top_dig la j (by have := HLA.out; omega) DA.out HV.out (by rw [← hy]; exact hy0)
        obtain ⟨V, hV⟩ : ∃ V, V = dval la := ⟨_, rfl⟩
        rw [← hV] at htop
        have t1 : ((y : Int) == 0) = false := by rw [beq_eq_false_iff_ne]; omega
        obtain ⟨D, hD⟩ : ∃ D, D = decN V := ⟨_, rfl⟩
        have hDl : D.length = j + 1 := by rw [hD, htop.1, List.length_take]; have := HLA.out; omega
        have hDc : ∀ e, e < j + 1 → w.cell? ⟨g, o + e, none⟩ = some (.int .i64 ((D.getD e 0 : Nat) : Int)) := fun e he => by
          obtain ⟨g', o', ee, _, hce⟩ := HA.out e (by have := HLA.out; omega)
          injection ee with ee; injection ee with e1 e2
          subst e1 e2
          rw [hce, hD, htop.1, List.getD_eq_getElem?_getD, List.getD_eq_getElem?_getD, List.getElem?_take_of_lt he]
        have hD10 : ∀ x ∈ D, x < 10 := by rw [hD]; exact decN_lt V
        have HVP := Lib.hid htop.2
        have HDD := Lib.hid hD
        have HDL := Lib.hid hDl
        have HDC := Lib.hid hDc
        have HD10 := Lib.hid hD10
        have hfin := txtP_end neg V htop.2
        rw [← hD, hV, ← HZ.out] at hfin
        have HFIN := Lib.hid hfin
        have t2 : ((((j : Nat) : Int) + 1) == 0) = false := by rw [beq_eq_false_iff_ne]; omega
        have hs0 : TxtR w false D (.slice none 0 0) (.int .i64 (j : Int)) w := ⟨D.length, Nat.le_refl _, by rw [hDl]; congr 1; omega, by rw [txtP_start]; exact World.ownsRow_nil _ _ _ _, Below.refl _ _⟩
        have HS0 := Lib.hid hs0
        clear htop hV hD hDl hDc hD10 hfin hs0 hy0 hy
        go_upto_if 24 with (fail)
        go_cut [6] (fun v wx => TxtR w neg D v (.int .i64 (j : Int)) wx)
        case first => as_aux_lemma =>
          cases neg with
          | false =>
            go_wp2_with fail
            go_meet
            exact HS0.out
          | true =>
            go_wp2_with (at_builtin; refine wpList_append1 _ rfl (.tmp 25) (.tmp 26) 43 rfl w.heap.size 5 i0 (.int .u8 0) 1 Tryz.underlying43 hi hz0 hz1 hz2 rfl _ _ _ rfl (World.ownsRow_nil _ _ _ _) ⟨w.heap.size, 0, none⟩ 1 (.int .u8 45) rfl ?c1 rfl ?c3 ?c4 ?c5 ?_)
            case c3 => unfold maxLen; omega
            intro v1 w1 ho1 hg1 hne1 hpl1
            have n1 : Hid (Below w.heap.size w w1) := ((Below.refl _ _).alloc (Nat.le_refl _) _).grown hg1 (by simp) (fun k hk => by simp [Value.ownBlock] at hk)
            have HO1 := Lib.hid ho1
            clear ho1 hg1 hne1 hpl1
            go_wp2_with fail
            go_meet
            exact ⟨D.length, Nat.le_refl _, by rw [HDL.out]; congr 1; omega, by rw [txtP_start]; exact HO1.out, n1.out⟩
        case rest => as_aux_lemma =>
          have HST := Lib.hid hcut
          clear hcut HS0
          go_wp2_with fail
          go_loopw [6, 7] (TxtR w neg D) (fun _ i _ => (intOf i + 1).toNat)
          case atStart => exact HST.out
          case round =>
            obtain ⟨i, hin, rfl, ho, hb⟩ := hrel
            have HO := Lib.hid ho
            have HB := Lib.hid hb
            clear ho hb
            by_cases hi0 : 1 ≤ i
            · obtain ⟨e, rfl⟩ : ∃ e, i = e + 1 := ⟨i - 1, by omega⟩
              rw [show (((e + 1 : Nat) : Int) - 1) = (e : Int) by omega]
              have hel : e < j + 1 := by have := HDL.out; omega
              have hce := (HB.out.cell (p := ⟨g, o + e, none⟩) hg).trans (HDC.out e hel)
              obtain ⟨x, hx⟩ : ∃ x, x = D.getD e 0 := ⟨_, rfl⟩
              rw [← hx] at hce
              have hx10 : x < 10 := by rw [hx]; exact digD_lt D e HD10.out
              have hst := txtP_step neg D e (by omega)
              rw [← hx] at hst
              have HSTP := Lib.hid hst
              have hdg : ((dgB x).toNat : Int) = 48 + (x : Int) := by rw [dgB_toNat hx10]; omega
              have HDG := Lib.hid hdg
              have hlen := txtP_len neg D (e + 1) hin
              clear hx hst hdg
              obtain ⟨Q, hQ⟩ : ∃ Q, Q = txtP neg D (e + 1) := ⟨_, rfl⟩
              have HO' := HO.out
              rw [← hQ] at HO' hlen HSTP
              have HO2 := Lib.hid HO'
              clear HO' HO hQ
              have hq2 : Q.length ≤ 900001 := by have := HDL.out; omega
              go_wp2_with (at_builtin; refine wpList_append1 _ rfl (.tmp 34) (.tmp 41) 43 rfl w.heap.size 5 i0 (.int .u8 0) 1 Tryz.underlying43 hi hz0 hz1 hz2 rfl _ _ _ rfl (HO2.out.alloc _) ⟨wr.heap.size, 0, none⟩ 1 (.int .u8 ((dgB x).toNat : Int)) rfl ?d1 rfl ?d3 ?d4 ?d5 ?_)
              case d1 => rw [HDG.out]; simp
              case d3 => unfold maxLen; omega
              case d4 => omega
              case d5 => have := HB.out.size; simp; omega
              intro v1 w1 ho1 hg1 hne1 hpl1
              have n1 : Below w.heap.size w w1 := (HB.out.alloc HB.out.size _).grown hg1 (by have := HB.out.size; simp; omega) (fun k hk => (HO2.out.lt k hk).1)
              rw [bytesV_snoc, HSTP.out] at ho1
              have hl2 : Q.length + 1 = (txtP neg D e).length := by rw [← HSTP.out]; simp
              rw [hl2] at ho1
              have HO1 := Lib.hid ho1
              have N1 := Lib.hid n1
              clear ho1 n1 hg1 hne1 hpl1 hl2
              go_wp2_with fail
              go_roundw
              case rel => exact ⟨e, by omega, rfl, HO1.out, N1.out⟩
              case measure => simp [intOf] <;> omega
            · obtain rfl : i = 0 := by omega
              have hcv := conv_own HO.out 89 Tryz.underlying89
              rw [HFIN.out] at hcv
              go_wp2_with fail
              go_ret
              exact ⟨rfl, HB.out⟩
    · obtain rfl : k = 0 := by omega
      have hz : dval la = 0 := by have := HV.out; simpa [dval] using this.symm
      have e0 : txtZ (if neg then -(dval la : Int) else (dval la : Int)) = [48] := by rw [hz]; cases neg <;> rfl
      have HE0 : Hid (Z = [48]) := by show _ = _; rw [HZ.out, e0]
      clear hz e0
      go_wp2_with fail
      go_ret
      exact ⟨by rw [HE0.out]; rfl, Below.refl _ _⟩

end Go.Proofs.YtdgmpgejemgbbaaGreatDoor

namespace Go.Proofs.YtdgmpgejemgbbaaGreatDoor
open Go.RowKit

theorem decN_mono {a b : Nat} (h : a ≤ b) : (decN a).length ≤ (decN b).length := by
  have h1 : 1 ≤ (decN b).length := List.length_pos_iff.2 (decN_ne b)
  exact (decN_len_le a _ h1).2 (Nat.lt_of_le_of_lt h ((decN_len_le b _ h1).1 (Nat.le_refl _)))

/-- An error is handed back. -/
def ErrPost (w : World) (n : Int) (e : Ending) (w' : World) : Prop := e = .returned (.int .i64 n) ∧ Below w.heap.size w w'

set_option maxHeartbeats 1000000 in
set_option maxRecDepth 100000 in
theorem rcheck_any (s : ByteArray) (w : World) (hs : s.size ≤ 1000000) :
    Calls Tryz.prog 82 #[.string s] w (ErrPost w (chkZ s.data.toList)) := by
  have hd := digits_any s w hs
  obtain ⟨l, hl⟩ : ∃ l, l = s.data.toList := ⟨_, rfl⟩
  rw [← hl] at hd ⊢
  obtain ⟨E, hE⟩ : ∃ E, E = chkZ l := ⟨_, rfl⟩
  rw [← hE]
  have HE := Lib.hid hE
  have HD := Lib.hid hd
  have HL := Lib.hid hl
  clear hd hE hl
  go_enter Tryz.func82, Tryz.ntmps82
  go_wp2_with fail
  refine HD.out.mono ?_
  rintro e w1 (⟨z, a, n, c, e1, rfl, e2, e3, e4, e5⟩ | ⟨e1, rfl, e2⟩)
  · have hE2 := HE.out
    rw [rdZ_some e1, chkZ_txtZ] at hE2
    unfold bigZ at hE2
    rw [e2] at hE2
    have HB := Lib.hid e5
    clear e1 e2 e3 e4 e5
    by_cases hb : 1000 < n
    · have e : E = 14 := by rw [hE2]; simp [hb]
      have HX := Lib.hid e
      clear e hE2
      go_wp2_with fail
      go_ret
      exact ⟨ret_int HX.out.symm, HB.out⟩
    · have e : E = 0 := by rw [hE2]; simp [hb]
      have HX := Lib.hid e
      clear e hE2
      go_wp2_with fail
      go_ret
      exact ⟨ret_int HX.out.symm, HB.out⟩
  · have e : E = 12 := by rw [HE.out]; exact chkZ_none e1
    have HX := Lib.hid e
    have HB := Lib.hid e2
    clear e e1 e2
    go_wp2_with fail
    go_ret
    exact ⟨ret_int HX.out.symm, HB.out⟩

/-- The error of two integers. -/
def bothZ (a b : List UInt8) : Int := if chkZ a = 0 then chkZ b else chkZ a

set_option maxHeartbeats 1000000 in
set_option maxRecDepth 100000 in
theorem rboth_any (s t : ByteArray) (w : World) (hs : s.size ≤ 1000000) (ht : t.size ≤ 1000000) :
    Calls Tryz.prog 69 #[.string s, .string t] w (ErrPost w (bothZ s.data.toList t.data.toList)) := by
  have hcs := fun W => rcheck_any s W hs
  have hct := fun W => rcheck_any t W ht
  obtain ⟨E, hE⟩ : ∃ E, E = bothZ s.data.toList t.data.toList := ⟨_, rfl⟩
  obtain ⟨a, ha⟩ : ∃ a, a = chkZ s.data.toList := ⟨_, rfl⟩
  obtain ⟨b, hb⟩ : ∃ b, b = chkZ t.data.toList := ⟨_, rfl⟩
  rw [← hE]
  unfold bothZ at hE
  rw [← ha, ← hb] at hE
  rw [← ha] at hcs
  rw [← hb] at hct
  have HCS := Lib.hid hcs
  have HCT := Lib.hid hct
  have HE := Lib.hid hE
  clear hcs hct hE ha hb
  by_cases h : a = 0
  · have t1 : (a != 0) = false := by simpa using h
    have hx : E = b := by rw [HE.out, if_pos h]
    have HX := Lib.hid hx
    clear hx h
    go_enter Tryz.func69, Tryz.ntmps69
    go_wp2_with fail
    refine (HCS.out _).mono ?_
    rintro e w1 ⟨rfl, b1⟩
    have B1 := Lib.hid b1
    clear b1
    go_wp2_with fail
    refine (HCT.out _).mono ?_
    rintro e w2 ⟨rfl, b2⟩
    have B2 := Lib.hid b2
    clear b2
    go_wp2_with fail
    go_ret
    exact ⟨ret_int HX.out.symm, B1.out.trans (B2.out.mono B1.out.size)⟩
  · have t1 : (a != 0) = true := by simpa using h
    have hx : E = a := by rw [HE.out, if_neg h]
    have HX := Lib.hid hx
    clear hx h
    go_enter Tryz.func69, Tryz.ntmps69
    go_wp2_with fail
    refine (HCS.out _).mono ?_
    rintro e w1 ⟨rfl, b1⟩
    have B1 := Lib.hid b1
    clear b1
    go_wp2_with fail
    refine (HCS.out _).mono ?_
    rintro e w2 ⟨rfl, b2⟩
    have B2 := Lib.hid b2
    clear b2
    go_wp2_with fail
    go_ret
    exact ⟨ret_int HX.out.symm, B1.out.trans (B2.out.mono B1.out.size)⟩

/-- A text and an error are handed back. -/
def SEPost (w : World) (l : List UInt8) (n : Int) (e : Ending) (w' : World) : Prop := e = .returned (.tuple #[.string ⟨l.toArray⟩, .int .i64 n]) ∧ Below w.heap.size w w'

set_option maxHeartbeats 1000000 in
set_option maxRecDepth 100000 in
theorem rgcd_bad (s t : ByteArray) (w : World) (hs : s.size ≤ 1000000) (ht : t.size ≤ 1000000) (h : bothZ s.data.toList t.data.toList ≠ 0) :
    Calls Tryz.prog 57 #[.string s, .string t] w (SEPost w [] (bothZ s.data.toList t.data.toList)) := by
  have hb := rboth_any s t w hs ht
  obtain ⟨E, hE⟩ : ∃ E, E = bothZ s.data.toList t.data.toList := ⟨_, rfl⟩
  rw [← hE] at hb h ⊢
  have HB := Lib.hid hb
  have t1 : (E != 0) = true := by simpa using h
  clear hb hE h
  go_enter Tryz.func57, Tryz.ntmps57
  go_wp2_with fail
  refine HB.out.mono ?_
  rintro e w1 ⟨rfl, b1⟩
  have B1 := Lib.hid b1
  clear b1
  go_wp2_with fail
  go_ret2
  exact ⟨rfl, B1.out⟩

/-- Euclid's loop. -/
def GcR (w : World) (G : Nat) (gk : Nat) (xv yv : Value) (wr : World) : Prop :=
  ∃ (a b : Option Addr) (n m c d : Nat) (X Y : List Nat), gk = dval Y ∧ xv = .slice a n c ∧ yv = .slice b m d ∧ X.length = n ∧ Y.length = m ∧ n ≤ 5000 ∧ m ≤ 5000 ∧ n ≤ c ∧ m ≤ d ∧
    (∀ x ∈ X, x < 10) ∧ (∀ x ∈ Y, x < 10) ∧ Nums .i64 wr a X ∧ Nums .i64 wr b Y ∧ Nat.gcd (dval X) (dval Y) = G ∧ (decN (dval Y)).length ≤ 1000 ∧ Below w.heap.size w wr

set_option maxHeartbeats 1000000 in
set_option maxRecDepth 100000 in
theorem rgcd_good (s t : ByteArray) (x y : Int) (w : World) (hx : s.data.toList = txtZ x) (hy : t.data.toList = txtZ y) (bx : bigZ x = false) (byy : bigZ y = false) (hs : s.size ≤ 1000000) (ht : t.size ≤ 1000000) :
    Calls Tryz.prog 57 #[.string s, .string t] w (SEPost w (txtZ (Nat.gcd x.natAbs y.natAbs : Int)) 0) := by
  have hb := rboth_any s t w hs ht
  have hz : bothZ s.data.toList t.data.toList = 0 := by
    unfold bothZ; rw [hx, hy, chkZ_txtZ, chkZ_txtZ, bx, byy]; rfl
  rw [hz] at hb
  have hcs := fun W => digits_any s W hs
  have hct := fun W => digits_any t W ht
  rw [hx] at hcs
  rw [hy] at hct
  have lx : (decN x.natAbs).length ≤ 1000 := by unfold bigZ at bx; simpa using bx
  have ly : (decN y.natAbs).length ≤ 1000 := by unfold bigZ at byy; simpa using byy
  obtain ⟨G, hG⟩ : ∃ G, G = Nat.gcd x.natAbs y.natAbs := ⟨_, rfl⟩
  rw [← hG]
  have HG := Lib.hid hG
  have HB := Lib.hid hb
  have HCS := Lib.hid hcs
  have HCT := Lib.hid hct
  clear hb hcs hct hx hy hz bx byy hG
  go_enter Tryz.func57, Tryz.ntmps57
  go_wp2_with fail
  refine HB.out.mono ?_
  rintro e w1 ⟨rfl, b1⟩
  have B1 := Lib.hid b1
  clear b1
  go_wp2_with fail
  refine (HCS.out _).mono ?_
  rintro e w2 (⟨z, a, n, c, e1, rfl, e2, e3, e4, e5⟩ | ⟨e1, _⟩)
  case inr => rw [rdZ_txtZ] at e1; cases e1
  rw [rdZ_txtZ] at e1
  injection e1 with e1
  subst e1
  have B2 := Lib.hid e5
  have N2 := Lib.hid e4
  have L2 := Lib.hid e2
  clear e2 e4 e5
  go_wp2_with fail
  refine (HCT.out _).mono ?_
  rintro e w3 (⟨z, b, m, d, e1, rfl, e2, e4, e5, e6⟩ | ⟨e1, _⟩)
  case inr => rw [rdZ_txtZ] at e1; cases e1
  rw [rdZ_txtZ] at e1
  injection e1 with e1
  subst e1
  have st : GcR w G y.natAbs (.slice a n c) (.slice b m d) w3 :=
    ⟨a, b, n, m, c, d, decN x.natAbs, decN y.natAbs, (dval_decN _).symm, rfl, rfl, L2.out, e2, by rw [← L2.out]; omega, by omega, e3, e4, decN_lt _, decN_lt _, N2.out.below e6, e5, by rw [dval_decN, dval_decN]; exact HG.out.symm, by rw [dval_decN]; exact ly,
      (B1.out.trans (B2.out.mono B1.out.size)).trans (e6.mono (by have := B1.out.size; have := B2.out.size; omega))⟩
  have ST := Lib.hid st
  clear st e2 e5 e6 N2 L2 B1 B2 e3 e4 HB HCS HCT
  go_wp2_with fail
  go_loopg [7, 10] y.natAbs (fun k xv yv wr => GcR w G k xv yv wr)
  case atStart => exact ST.out
  case round =>
    obtain ⟨w4, rfl⟩ : ∃ w4 : World, w4 = wr := ⟨_, rfl⟩
    obtain ⟨a, b, n, m, c, d, X, Y, rfl, rfl, rfl, h1, h2, h3, h4, h5, h6, h7, h8, h9, h10, h11, h12, h13⟩ := hrel
    have hz := zero_any b m d Y w4 h2 (by omega) h8 h10
    have N1 := Lib.hid h9
    have N2 := Lib.hid h10
    have D1 := Lib.hid h7
    have D2 := Lib.hid h8
    have L1 := Lib.hid h1
    have L2 := Lib.hid h2
    have GG := Lib.hid h11
    have BB := Lib.hid h13
    by_cases hy0 : dval Y = 0
    · have e : decide (dval Y = 0) = true := by simpa using hy0
      rw [e] at hz
      have HZ := Lib.hid hz
      have hG2 : dval X = G := by rw [← h11, hy0, Nat.gcd_zero_right]
      have htx := text_any a n c X false w4 h1 (by omega) h7 h9
      have e2 : (if false = true then -(dval X : Int) else (dval X : Int)) = (G : Int) := by simp [hG2]
      rw [e2] at htx
      have HT := Lib.hid htx
      clear h1 h2 h7 h8 h9 h10 h11 h13 hz e hy0 hG2 htx e2
      go_wp2_with fail
      refine HZ.out.mono ?_
      rintro e w' ⟨rfl, rfl⟩
      go_wp2_with fail
      refine HT.out.mono ?_
      rintro e w5 ⟨rfl, b5⟩
      have B5 := Lib.hid b5
      clear b5
      go_wp2_with fail
      go_ret2
      exact ⟨rfl, BB.out.trans (B5.out.mono BB.out.size)⟩
    · have e : decide (dval Y = 0) = false := by simpa using hy0
      rw [e] at hz
      have HZ := Lib.hid hz
      have hdv := ddivide_any a b n m c d X Y w4 h1 h2 (by omega) (by omega) h6 h7 h8 (by omega) h9 h10
      have HDV := Lib.hid hdv
      have hyp : 0 < dval Y := by omega
      have HYP := Lib.hid hyp
      clear h1 h2 h7 h8 h9 h10 h11 h13 hz e hy0 hdv hyp
      go_wp2_with fail
      refine HZ.out.mono ?_
      rintro e w' ⟨rfl, rfl⟩
      go_wp2_with fail
      refine HDV.out.mono ?_
      rintro e w5 ⟨a1, c1, q, a2, c2, r, rfl, q1, q2, q3, q4, q5, q6, q7, q8, q9, q10, q11⟩
      have hst : GcR w G (dval r) (.slice b m d) (.slice a2 r.length c2) w5 := by
        have hlt : dval r < dval Y := by rw [q9]; exact Nat.mod_lt _ HYP.out
        refine ⟨b, a2, m, r.length, d, c2, Y, r, rfl, rfl, rfl, L2.out, rfl, h4, by omega, h6, q2, D2.out, q7, N2.out.below q11, q5, ?_, ?_, BB.out.trans (q11.mono BB.out.size)⟩
        · rw [q9, Nat.gcd_comm, ← Nat.gcd_rec, Nat.gcd_comm]; exact GG.out
        · have := decN_mono (Nat.le_of_lt hlt); omega
      have hms : dval r < dval Y := by rw [q9]; exact Nat.mod_lt _ HYP.out
      have HST := Lib.hid hst
      have HMS := Lib.hid hms
      clear q1 q2 q3 q4 q5 q6 q7 q8 q9 q10 q11 hst hms
      go_wp2_with fail
      go_roundg (dval r)
      case measure => exact HMS.out
      case rel => exact HST.out

end Go.Proofs.YtdgmpgejemgbbaaGreatDoor
