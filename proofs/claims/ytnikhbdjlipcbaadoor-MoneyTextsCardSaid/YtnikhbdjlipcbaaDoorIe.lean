/-
  The reference's Digits. No condition.
-/
import Derived.Test.YtnikhbdjlipcbaaDoorId
namespace Go.Proofs.YtnikhbdjlipcbaaDoor
open Go.RowKit

theorem rdZ_pos {l : List UInt8} (h : l.head? ≠ some 45) (hc : CanN l) : rdZ l = some (dval (undig l) : Int) := by
  unfold rdZ; rw [if_neg h]
  unfold rdN; rw [if_pos ((rdN_test l).2 hc)]; rfl
theorem rdZ_neg {l : List UInt8} (h : l.head? = some 45) (hc : CanN l.tail) (h0 : l.tail.head? ≠ some 48) : ∃ z : Int, rdZ l = some z ∧ z < 0 ∧ z.natAbs = dval (undig l.tail) := by
  have e := txtN_undig _ hc
  unfold rdZ; rw [if_pos h]
  unfold rdN; rw [if_pos ((rdN_test l.tail).2 hc)]
  cases hd : dval (undig l.tail) with
  | zero =>
    rw [hd] at e
    exfalso; apply h0; rw [← e]; rfl
  | succ n => exact ⟨_, rfl, by omega, by omega⟩
theorem rdZ_no {l : List UInt8} (h : l.head? ≠ some 45) (hc : ¬ CanN l) : rdZ l = none := by
  unfold rdZ; rw [if_neg h, rdN_none hc]; rfl
theorem rdZ_nog {l : List UInt8} (h : l.head? = some 45) (hc : ¬ CanN l.tail) : rdZ l = none := by
  unfold rdZ; rw [if_pos h, rdN_none hc]
theorem rdZ_no0 {l : List UInt8} (h : l.head? = some 45) (h0 : l.tail.head? = some 48) : rdZ l = none := by
  unfold rdZ; rw [if_pos h]
  cases e : rdN l.tail with
  | none => rfl
  | some n =>
    cases n with
    | zero => rfl
    | succ n =>
      exfalso
      have e := rdN_some e
      have hh := canN_txtN (n + 1)
      rw [← e] at hh
      have h1 := hh.2.2 h0
      have h2 : l.tail = [48] := by
        match hl : l.tail, h1 with
        | [c], _ => rw [hl] at h0; simp at h0; rw [h0]
      have : txtN (n + 1) = txtN 0 := by rw [← e, h2]; rfl
      have := txtN_inj this
      omega
theorem undig_drop (l : List UInt8) (k : Nat) (c : UInt8) (h : l[k]? = some c) : undig (l.drop (k + 1)) ++ [c.toNat - 48] = undig (l.drop k) := by
  have hk : k < l.length := (List.getElem?_eq_some_iff.1 h).1
  rw [List.drop_eq_getElem_cons hk]
  have : l[k] = c := by rw [List.getElem?_eq_getElem hk] at h; injection h
  unfold undig
  rw [this]
  simp
theorem decN_undig {l : List UInt8} (h : CanN l) : decN (dval (undig l)) = undig l := by
  have := congrArg undig (txtN_undig l h)
  rwa [undig_txtN] at this

/-- What Digits hands back. -/
def DigPost (w : World) (l : List UInt8) (e : Ending) (w' : World) : Prop :=
  (∃ z a n c, rdZ l = some z ∧ e = .returned (.tuple #[.slice a n c, .bool (decide (z < 0)), .bool true]) ∧ (decN z.natAbs).length = n ∧ n ≤ c ∧ Nums .i64 w' a (decN z.natAbs) ∧ Below w.heap.size w w') ∨
  (rdZ l = none ∧ e = .returned (.tuple #[.slice none 0 0, .bool false, .bool false]) ∧ Below w.heap.size w w')
/-- The loop: the bytes behind place i have been taken. -/
def DgR (w : World) (t : ByteArray) (n : Nat) (o iv : Value) (wr : World) : Prop :=
  ∃ i : Nat, i ≤ n ∧ iv = .int .i64 ((i : Int) - 1) ∧ wr.ownsRow w.heap.size 3 1 o (n - i) (nums .i64 (undig (t.data.toList.drop i))) ∧ (∀ c ∈ t.data.toList.drop i, 48 ≤ c.toNat ∧ c.toNat ≤ 57) ∧ Below w.heap.size w wr
theorem dgR_start (w : World) (t : ByteArray) (n : Nat) (h : t.size = n) : DgR w t n (.slice none 0 0) (.int .i64 ((n : Int) - 1)) w := by
  refine ⟨n, Nat.le_refl _, rfl, ?_, ?_, Below.refl _ _⟩
  · rw [List.drop_eq_nil_of_le (by rw [data_len]; omega), Nat.sub_self]
    exact World.ownsRow_nil _ _ _ _
  · rw [List.drop_eq_nil_of_le (by rw [data_len]; omega)]; simp
theorem data_drop (s : ByteArray) (k : Nat) (h : k < s.size) : s.data.toList.drop k = s[k] :: s.data.toList.drop (k + 1) := by
  rw [List.drop_eq_getElem_cons (by rw [data_len]; exact h)]
  congr 1

set_option maxHeartbeats 4000000 in
set_option maxRecDepth 100000 in
theorem digits_neg_loop (s : ByteArray) (w : World) (hs : s.size ≤ 1000000) (h0 : 0 < s.size) (h1 : ((s[0].toNat : Int) == 45) = true)
    (h2 : 0 < s.size - 1) (a5 : (((s.size - 1 : Nat) : Int) == 0) = false) (a3 : (((s.extract 1 s.size)[0]'(by simp; omega)).toNat == (48 : Int)) = false)
    (HT : Hid ((s.extract 1 s.size).size = s.size - 1)) (HS : Hid (DgR w (s.extract 1 s.size) (s.size - 1) (.slice none 0 0) (.int .i64 (((s.size - 1 : Nat) : Int) - 1)) w))
    (HE : Hid (∀ c, c ∈ (s.extract 1 s.size).data.toList → ¬ (48 ≤ c.toNat ∧ c.toNat ≤ 57) → rdZ s.data.toList = none))
    (HC : Hid ((∀ c ∈ (s.extract 1 s.size).data.toList, 48 ≤ c.toNat ∧ c.toNat ≤ 57) → ∃ z, rdZ s.data.toList = some z ∧ decN z.natAbs = undig (s.extract 1 s.size).data.toList ∧ decide (z < 0) = true)) :
    Calls Tryd.prog 58 #[.string s] w (DigPost w s.data.toList) := by
  obtain ⟨i0, hi, hz0, hz1, hz2⟩ := info_parts infoInt
  go_enter Tryd.func58, Tryd.ntmps58
  go_wp2_with fail
  go_loopw [7, 8] (DgR w (s.extract 1 s.size) (s.size - 1)) (fun _ i _ => (intOf i + 1).toNat)
  case atStart => exact HS.out
  case round =>
    obtain ⟨i, hin, rfl, ho, hd, hb⟩ := hrel
    have HD := Lib.hid hd
    obtain ⟨D, hD⟩ : ∃ D, D = undig ((s.extract 1 s.size).data.toList.drop i) := ⟨_, rfl⟩
    rw [← hD] at ho
    have HDD := Lib.hid hD
    have HO := Lib.hid ho
    have HB := Lib.hid hb
    clear hd ho hb hD
    by_cases hi0 : 1 ≤ i
    · obtain ⟨k, rfl⟩ : ∃ k, i = k + 1 := ⟨i - 1, by omega⟩
      have hlt : k < s.size - 1 := by omega
      have hlt' : k < (s.extract 1 s.size).size := by have := HT.out; omega
      rw [show (((k + 1 : Nat) : Int) - 1) = (k : Int) by omega]
      by_cases hc : 48 ≤ (s.extract 1 s.size)[k].toNat ∧ (s.extract 1 s.size)[k].toNat ≤ 57
      · have HN : Hid (∀ c ∈ (s.extract 1 s.size).data.toList.drop k, 48 ≤ c.toNat ∧ c.toNat ≤ 57) := by
          show ∀ c ∈ _, _
          rw [data_drop _ k hlt']
          intro c hcm
          rcases List.mem_cons.1 hcm with rfl | hcm
          · exact hc
          · exact HD.out c hcm
        have HU := Lib.hid (undig_drop (s.extract 1 s.size).data.toList k _ (Lib.data_getElem? _ k hlt'))
        obtain ⟨x, hx⟩ : ∃ x, x = (s.extract 1 s.size)[k].toNat - 48 := ⟨_, rfl⟩
        rw [← hx] at HU
        have hx1 : (((s.extract 1 s.size)[k].toNat : Int) - 48) = (x : Int) := by omega
        have hx2 : x < 10 := by omega
        have HX := Lib.hid hx1
        clear hx hx1
        obtain ⟨c1, c2⟩ := hc
        go_wp2_with (at_builtin; refine wpList_append1 _ rfl (.tmp 54) (.tmp 60) 99 rfl w.heap.size 3 i0 (.int .i64 0) 8 Tryd.underlying99 hi hz0 hz1 hz2 rfl _ _ _ rfl (HO.out.alloc _) ⟨wr.heap.size, 0, none⟩ 1 (.int .i64 x) rfl ?c1 rfl ?c3 ?c4 ?c5 ?_)
        case c1 => rw [← HX.out]; simp
        case c3 => unfold maxLen; omega
        case c4 => omega
        case c5 => have := HB.out.size; simp; omega
        intro v1 w1 ho1 hg1 hne1 hpl1
        have n1 : Below w.heap.size w w1 := (HB.out.alloc HB.out.size _).grown hg1 (by have := HB.out.size; simp; omega) (fun k hk => (HO.out.lt k hk).1)
        rw [nums_snoc, HDD.out, HU.out, show s.size - 1 - (k + 1) + 1 = s.size - 1 - k by omega] at ho1
        have HO1 := Lib.hid ho1
        have N1 := Lib.hid n1
        clear ho1 n1 hg1 hne1 hpl1
        go_wp2_with fail
        go_roundw
        case rel => exact ⟨k, by omega, rfl, HO1.out, HN.out, N1.out⟩
        case measure => simp [intOf] <;> omega
      · have e4 := Lib.hid (HE.out _ (data_mem _ k hlt') hc)
        have hc' : (s.extract 1 s.size)[k].toNat < 48 ∨ 57 < (s.extract 1 s.size)[k].toNat := by omega
        clear hc
        rcases hc' with c1 | c1
        · go_wp2_with fail
          go_ret3
          exact .inr ⟨e4.out, rfl, HB.out⟩
        · go_wp2_with fail
          go_ret3
          exact .inr ⟨e4.out, rfl, HB.out⟩
    · obtain rfl : i = 0 := by omega
      have e4 := HC.out (by have := HD.out; rwa [List.drop_zero] at this)
      have ho := HO.out
      rw [HDD.out, List.drop_zero, Nat.sub_zero] at ho
      have E4 := Lib.hid e4
      have HO2 := Lib.hid ho
      clear e4 ho
      go_wp2_with fail
      go_ret3
      obtain ⟨z, e1, e2, e3⟩ := E4.out
      obtain ⟨a, c, hv, hl, hnc, hnm⟩ := nums_of_owns HO2.out
      rw [← e2] at hl hnm
      exact .inl ⟨z, a, s.size - 1, c, e1, by rw [hv, e3]; rfl, hl, hnc, hnm, HB.out⟩

set_option maxHeartbeats 4000000 in
set_option maxRecDepth 100000 in
theorem digits_pos_loop (s : ByteArray) (w : World) (hs : s.size ≤ 1000000) (h0 : 0 < s.size) (h1 : ((s[0].toNat : Int) == 45) = false)
    (a5 : ((s.size : Int) == 0) = false) (a3 : ((s[0].toNat : Int) == 48) = false)
    (HT : Hid ((s).size = s.size)) (HS : Hid (DgR w (s) (s.size) (.slice none 0 0) (.int .i64 (((s.size : Nat) : Int) - 1)) w))
    (HE : Hid (∀ c, c ∈ (s).data.toList → ¬ (48 ≤ c.toNat ∧ c.toNat ≤ 57) → rdZ s.data.toList = none))
    (HC : Hid ((∀ c ∈ (s).data.toList, 48 ≤ c.toNat ∧ c.toNat ≤ 57) → ∃ z, rdZ s.data.toList = some z ∧ decN z.natAbs = undig (s).data.toList ∧ decide (z < 0) = false)) :
    Calls Tryd.prog 58 #[.string s] w (DigPost w s.data.toList) := by
  obtain ⟨i0, hi, hz0, hz1, hz2⟩ := info_parts infoInt
  go_enter Tryd.func58, Tryd.ntmps58
  go_wp2_with fail
  go_loopw [7, 8] (DgR w (s) (s.size)) (fun _ i _ => (intOf i + 1).toNat)
  case atStart => exact HS.out
  case round =>
    obtain ⟨i, hin, rfl, ho, hd, hb⟩ := hrel
    have HD := Lib.hid hd
    obtain ⟨D, hD⟩ : ∃ D, D = undig ((s).data.toList.drop i) := ⟨_, rfl⟩
    rw [← hD] at ho
    have HDD := Lib.hid hD
    have HO := Lib.hid ho
    have HB := Lib.hid hb
    clear hd ho hb hD
    by_cases hi0 : 1 ≤ i
    · obtain ⟨k, rfl⟩ : ∃ k, i = k + 1 := ⟨i - 1, by omega⟩
      have hlt : k < s.size := by omega
      have hlt' : k < (s).size := by have := HT.out; omega
      rw [show (((k + 1 : Nat) : Int) - 1) = (k : Int) by omega]
      by_cases hc : 48 ≤ (s)[k].toNat ∧ (s)[k].toNat ≤ 57
      · have HN : Hid (∀ c ∈ (s).data.toList.drop k, 48 ≤ c.toNat ∧ c.toNat ≤ 57) := by
          show ∀ c ∈ _, _
          rw [data_drop _ k hlt']
          intro c hcm
          rcases List.mem_cons.1 hcm with rfl | hcm
          · exact hc
          · exact HD.out c hcm
        have HU := Lib.hid (undig_drop (s).data.toList k _ (Lib.data_getElem? _ k hlt'))
        obtain ⟨x, hx⟩ : ∃ x, x = (s)[k].toNat - 48 := ⟨_, rfl⟩
        rw [← hx] at HU
        have hx1 : (((s)[k].toNat : Int) - 48) = (x : Int) := by omega
        have hx2 : x < 10 := by omega
        have HX := Lib.hid hx1
        clear hx hx1
        obtain ⟨c1, c2⟩ := hc
        go_wp2_with (at_builtin; refine wpList_append1 _ rfl (.tmp 54) (.tmp 60) 99 rfl w.heap.size 3 i0 (.int .i64 0) 8 Tryd.underlying99 hi hz0 hz1 hz2 rfl _ _ _ rfl (HO.out.alloc _) ⟨wr.heap.size, 0, none⟩ 1 (.int .i64 x) rfl ?c1 rfl ?c3 ?c4 ?c5 ?_)
        case c1 => rw [← HX.out]; simp
        case c3 => unfold maxLen; omega
        case c4 => omega
        case c5 => have := HB.out.size; simp; omega
        intro v1 w1 ho1 hg1 hne1 hpl1
        have n1 : Below w.heap.size w w1 := (HB.out.alloc HB.out.size _).grown hg1 (by have := HB.out.size; simp; omega) (fun k hk => (HO.out.lt k hk).1)
        rw [nums_snoc, HDD.out, HU.out, show s.size - (k + 1) + 1 = s.size - k by omega] at ho1
        have HO1 := Lib.hid ho1
        have N1 := Lib.hid n1
        clear ho1 n1 hg1 hne1 hpl1
        go_wp2_with fail
        go_roundw
        case rel => exact ⟨k, by omega, rfl, HO1.out, HN.out, N1.out⟩
        case measure => simp [intOf] <;> omega
      · have e4 := Lib.hid (HE.out _ (data_mem _ k hlt') hc)
        have hc' : (s)[k].toNat < 48 ∨ 57 < (s)[k].toNat := by omega
        clear hc
        rcases hc' with c1 | c1
        · go_wp2_with fail
          go_ret3
          exact .inr ⟨e4.out, rfl, HB.out⟩
        · go_wp2_with fail
          go_ret3
          exact .inr ⟨e4.out, rfl, HB.out⟩
    · obtain rfl : i = 0 := by omega
      have e4 := HC.out (by have := HD.out; rwa [List.drop_zero] at this)
      have ho := HO.out
      rw [HDD.out, List.drop_zero, Nat.sub_zero] at ho
      have E4 := Lib.hid e4
      have HO2 := Lib.hid ho
      clear e4 ho
      go_wp2_with fail
      go_ret3
      obtain ⟨z, e1, e2, e3⟩ := E4.out
      obtain ⟨a, c, hv, hl, hnc, hnm⟩ := nums_of_owns HO2.out
      rw [← e2] at hl hnm
      exact .inl ⟨z, a, s.size, c, e1, by rw [hv, e3]; rfl, hl, hnc, hnm, HB.out⟩

set_option maxHeartbeats 4000000 in
set_option maxRecDepth 100000 in
theorem digits_zero_loop (s : ByteArray) (w : World) (hs : s.size ≤ 1) (h0 : 0 < s.size) (h1 : ((s[0].toNat : Int) == 45) = false)
    (a3 : ((s[0].toNat : Int) == 48) = true)
    (HT : Hid ((s).size = s.size)) (HS : Hid (DgR w (s) (s.size) (.slice none 0 0) (.int .i64 (((s.size : Nat) : Int) - 1)) w))
    (HE : Hid (∀ c, c ∈ (s).data.toList → ¬ (48 ≤ c.toNat ∧ c.toNat ≤ 57) → rdZ s.data.toList = none))
    (HC : Hid ((∀ c ∈ (s).data.toList, 48 ≤ c.toNat ∧ c.toNat ≤ 57) → ∃ z, rdZ s.data.toList = some z ∧ decN z.natAbs = undig (s).data.toList ∧ decide (z < 0) = false)) :
    Calls Tryd.prog 58 #[.string s] w (DigPost w s.data.toList) := by
  obtain ⟨i0, hi, hz0, hz1, hz2⟩ := info_parts infoInt
  have a5 : ((s.size : Int) == 0) = false := by rw [beq_eq_false_iff_ne]; omega
  have a4 : decide ((1 : Int) < (s.size : Int)) = false := by simp; omega
  go_enter Tryd.func58, Tryd.ntmps58
  go_wp2_with fail
  go_loopw [7, 8] (DgR w (s) (s.size)) (fun _ i _ => (intOf i + 1).toNat)
  case atStart => exact HS.out
  case round =>
    obtain ⟨i, hin, rfl, ho, hd, hb⟩ := hrel
    have HD := Lib.hid hd
    obtain ⟨D, hD⟩ : ∃ D, D = undig ((s).data.toList.drop i) := ⟨_, rfl⟩
    rw [← hD] at ho
    have HDD := Lib.hid hD
    have HO := Lib.hid ho
    have HB := Lib.hid hb
    clear hd ho hb hD
    by_cases hi0 : 1 ≤ i
    · obtain ⟨k, rfl⟩ : ∃ k, i = k + 1 := ⟨i - 1, by omega⟩
      have hlt : k < s.size := by omega
      have hlt' : k < (s).size := by have := HT.out; omega
      rw [show (((k + 1 : Nat) : Int) - 1) = (k : Int) by omega]
      by_cases hc : 48 ≤ (s)[k].toNat ∧ (s)[k].toNat ≤ 57
      · have HN : Hid (∀ c ∈ (s).data.toList.drop k, 48 ≤ c.toNat ∧ c.toNat ≤ 57) := by
          show ∀ c ∈ _, _
          rw [data_drop _ k hlt']
          intro c hcm
          rcases List.mem_cons.1 hcm with rfl | hcm
          · exact hc
          · exact HD.out c hcm
        have HU := Lib.hid (undig_drop (s).data.toList k _ (Lib.data_getElem? _ k hlt'))
        obtain ⟨x, hx⟩ : ∃ x, x = (s)[k].toNat - 48 := ⟨_, rfl⟩
        rw [← hx] at HU
        have hx1 : (((s)[k].toNat : Int) - 48) = (x : Int) := by omega
        have hx2 : x < 10 := by omega
        have HX := Lib.hid hx1
        clear hx hx1
        obtain ⟨c1, c2⟩ := hc
        go_wp2_with (at_builtin; refine wpList_append1 _ rfl (.tmp 54) (.tmp 60) 99 rfl w.heap.size 3 i0 (.int .i64 0) 8 Tryd.underlying99 hi hz0 hz1 hz2 rfl _ _ _ rfl (HO.out.alloc _) ⟨wr.heap.size, 0, none⟩ 1 (.int .i64 x) rfl ?c1 rfl ?c3 ?c4 ?c5 ?_)
        case c1 => rw [← HX.out]; simp
        case c3 => unfold maxLen; omega
        case c4 => omega
        case c5 => have := HB.out.size; simp; omega
        intro v1 w1 ho1 hg1 hne1 hpl1
        have n1 : Below w.heap.size w w1 := (HB.out.alloc HB.out.size _).grown hg1 (by have := HB.out.size; simp; omega) (fun k hk => (HO.out.lt k hk).1)
        rw [nums_snoc, HDD.out, HU.out, show s.size - (k + 1) + 1 = s.size - k by omega] at ho1
        have HO1 := Lib.hid ho1
        have N1 := Lib.hid n1
        clear ho1 n1 hg1 hne1 hpl1
        go_wp2_with fail
        go_roundw
        case rel => exact ⟨k, by omega, rfl, HO1.out, HN.out, N1.out⟩
        case measure => simp [intOf] <;> omega
      · have e4 := Lib.hid (HE.out _ (data_mem _ k hlt') hc)
        have hc' : (s)[k].toNat < 48 ∨ 57 < (s)[k].toNat := by omega
        clear hc
        rcases hc' with c1 | c1
        · go_wp2_with fail
          go_ret3
          exact .inr ⟨e4.out, rfl, HB.out⟩
        · go_wp2_with fail
          go_ret3
          exact .inr ⟨e4.out, rfl, HB.out⟩
    · obtain rfl : i = 0 := by omega
      have e4 := HC.out (by have := HD.out; rwa [List.drop_zero] at this)
      have ho := HO.out
      rw [HDD.out, List.drop_zero, Nat.sub_zero] at ho
      have E4 := Lib.hid e4
      have HO2 := Lib.hid ho
      clear e4 ho
      go_wp2_with fail
      go_ret3
      obtain ⟨z, e1, e2, e3⟩ := E4.out
      obtain ⟨a, c, hv, hl, hnc, hnm⟩ := nums_of_owns HO2.out
      rw [← e2] at hl hnm
      exact .inl ⟨z, a, s.size, c, e1, by rw [hv, e3]; rfl, hl, hnc, hnm, HB.out⟩

set_option maxHeartbeats 4000000 in
set_option maxRecDepth 100000 in
theorem digits_empty (s : ByteArray) (w : World) (h0 : s.size = 0) (_a5 : ((s.size : Int) == 0) = true) (HE : Hid (rdZ s.data.toList = none)) : Calls Tryd.prog 58 #[.string s] w (DigPost w s.data.toList) := by
  go_enter Tryd.func58, Tryd.ntmps58
  go_wp2_with fail
  go_ret3
  exact .inr ⟨HE.out, rfl, Below.refl _ _⟩
set_option maxHeartbeats 4000000 in
set_option maxRecDepth 100000 in
theorem digits_long_zero (s : ByteArray) (w : World) (h0 : 1 < s.size) (h1 : ((s[0].toNat : Int) == 45) = false) (a3 : ((s[0].toNat : Int) == 48) = true) (HE : Hid (rdZ s.data.toList = none)) : Calls Tryd.prog 58 #[.string s] w (DigPost w s.data.toList) := by
  have a5 : ((s.size : Int) == 0) = false := by rw [beq_eq_false_iff_ne]; omega
  go_enter Tryd.func58, Tryd.ntmps58
  go_wp2_with fail
  go_ret3
  exact .inr ⟨HE.out, rfl, Below.refl _ _⟩
set_option maxHeartbeats 4000000 in
set_option maxRecDepth 100000 in
theorem digits_neg_empty (s : ByteArray) (w : World) (h0 : 0 < s.size) (_h2 : s.size - 1 < 1) (a5 : (((s.size - 1 : Nat) : Int) == 0) = true) (h1 : ((s[0].toNat : Int) == 45) = true) (HE : Hid (rdZ s.data.toList = none)) : Calls Tryd.prog 58 #[.string s] w (DigPost w s.data.toList) := by
  go_enter Tryd.func58, Tryd.ntmps58
  go_wp2_with fail
  go_ret3
  exact .inr ⟨HE.out, rfl, Below.refl _ _⟩
set_option maxHeartbeats 4000000 in
set_option maxRecDepth 100000 in
theorem digits_neg_zero (s : ByteArray) (w : World) (h0 : 0 < s.size) (h1 : ((s[0].toNat : Int) == 45) = true)
    (h2 : 0 < s.size - 1) (a5 : (((s.size - 1 : Nat) : Int) == 0) = false) (a3 : (((s.extract 1 s.size)[0]'(by simp; omega)).toNat == (48 : Int)) = true) (HE : Hid (rdZ s.data.toList = none)) : Calls Tryd.prog 58 #[.string s] w (DigPost w s.data.toList) := by
  go_enter Tryd.func58, Tryd.ntmps58
  go_wp2_with fail
  all_goals
    go_ret3
    exact .inr ⟨HE.out, rfl, Below.refl _ _⟩

theorem digits_any (s : ByteArray) (w : World) (hs : s.size ≤ 1000000) : Calls Tryd.prog 58 #[.string s] w (DigPost w s.data.toList) := by
  by_cases h0 : s.size = 0
  · refine digits_empty s w h0 (by rw [h0]; rfl) ?_
    have : s.data.toList = [] := List.eq_nil_of_length_eq_zero (by rw [data_len]; exact h0)
    show _ = _
    rw [this]; rfl
  · have h0 : 0 < s.size := by omega
    cases h1 : ((s[0].toNat : Int) == 45) with
    | true =>
      have H45 := head_of h0 (n := 45) (by omega) h1
      have HT : (s.extract 1 s.size).size = s.size - 1 := by simp
      have ht := tail_data s
      by_cases h2 : s.size = 1
      · refine digits_neg_empty s w h0 (by omega) (by rw [h2]; rfl) h1 (rdZ_nog H45 ?_)
        have : s.data.toList.tail = [] := List.eq_nil_of_length_eq_zero (by rw [List.length_tail, data_len]; omega)
        rw [this]; exact fun h => h.1 rfl
      · have h2 : 0 < s.size - 1 := by omega
        have a5 : (((s.size - 1 : Nat) : Int) == 0) = false := by rw [beq_eq_false_iff_ne]; omega
        have h2' : 0 < (s.extract 1 s.size).size := by omega
        cases a3 : (((s.extract 1 s.size)[0].toNat : Int) == 48) with
        | true =>
          have hd := head_of h2' (n := 48) (by omega) a3
          exact digits_neg_zero s w h0 h1 h2 a5 a3 (rdZ_no0 H45 (by rw [← ht]; exact hd))
        | false =>
          have hd := head_not h2' (n := 48) (by omega) a3
          have hne : (s.extract 1 s.size).data.toList ≠ [] := fun h => by have := data_len (s.extract 1 s.size); rw [h] at this; simp at this; omega
          refine digits_neg_loop s w hs h0 h1 h2 a5 a3 HT (dgR_start w _ _ HT) (fun c hc hn => rdZ_nog H45 (fun h => hn (h.2.1 c (by rw [← ht]; exact hc)))) (fun h => ?_)
          have hcan : CanN s.data.toList.tail := by rw [← ht]; exact ⟨hne, h, fun h48 => absurd h48 hd⟩
          obtain ⟨z, e1, e2, e3⟩ := rdZ_neg H45 hcan (by rw [← ht]; exact hd)
          exact ⟨z, e1, by rw [e3, ht, decN_undig hcan], by simpa using e2⟩
    | false =>
      have hh := head_not h0 (n := 45) (by omega) h1
      have hne : s.data.toList ≠ [] := fun h => by have := data_len s; rw [h] at this; simp at this; omega
      have hfin : ∀ (h : CanN s.data.toList), ∃ z, rdZ s.data.toList = some z ∧ decN z.natAbs = undig s.data.toList ∧ decide (z < 0) = false := fun h =>
        ⟨_, rdZ_pos hh h, by rw [Int.natAbs_natCast, decN_undig h], by simp⟩
      have hbad : ∀ c, c ∈ s.data.toList → ¬ (48 ≤ c.toNat ∧ c.toNat ≤ 57) → rdZ s.data.toList = none := fun c hc hn => rdZ_no hh (fun h => hn (h.2.1 c hc))
      cases a3 : ((s[0].toNat : Int) == 48) with
      | true =>
        have hd := head_of h0 (n := 48) (by omega) a3
        by_cases h2 : 1 < s.size
        · exact digits_long_zero s w h2 h1 a3 (rdZ_no hh (fun h => by have := h.2.2 hd; rw [data_len] at this; omega))
        · exact digits_zero_loop s w (by omega) h0 h1 a3 rfl (dgR_start w _ _ rfl) hbad (fun h => hfin ⟨hne, h, fun _ => by rw [data_len]; omega⟩)
      | false =>
        have hd := head_not h0 (n := 48) (by omega) a3
        exact digits_pos_loop s w hs h0 h1 (by rw [beq_eq_false_iff_ne]; omega) a3 rfl (dgR_start w _ _ rfl) hbad (fun h => hfin ⟨hne, h, fun h48 => absurd h48 hd⟩)

end Go.Proofs.YtnikhbdjlipcbaaDoor
