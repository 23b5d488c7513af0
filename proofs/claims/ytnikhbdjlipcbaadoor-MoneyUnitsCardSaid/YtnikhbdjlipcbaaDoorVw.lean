/-
  A map of the call's own: its stores and its keys. No condition. Names and units of currencies: the program's and the reference's. No condition.
-/
import Derived.Test.YtnikhbdjlipcbaaDoorRows
import Derived.Test.YtnikhbdjlipcbaaDoorVa
import Derived.Maps.Own
import Derived.Maps.OwnSet
import Derived.StringKeys
import Derived.Test.YtnikhbdjlipcbaaDoorVd
import Derived.Test.YtnikhbdjlipcbaaDoorVc
namespace Go.Proofs.YtnikhbdjlipcbaaDoor
open Go.RowKit Go.Maps Go.WideElems Go.WideShapes Go.ChangeShapes Go.WideMaps

/-- 'm[k] = v' of a composite literal, at the operation. -/
theorem wpList_insert_own {H : Type} {P : Program} (w : World) {ops : Array Oper} {rest : List Oper} {o : Oper} {a : Act} {Q : Exit → Act → World → Prop}
    (hg : o.guard = none) (m x v : Operand) (t : TypeId) (hop : o.op = Op.insert t m x v)
    (k e : TypeId) (K : Keyed P k) (ht : P.underlying t = some (.map k e)) (R : Value → Option (DataW H × List MemPlace)) (b n : Nat) (D : DataW H)
    (hm : a.eval m = .map (some b)) (hown : w.ownsMap P k R b n D) (hn : n < maxLen) (key val : Value) (kl : Lit) (hx : a.eval x = key) (hv : a.eval v = val) (hkey : keyOf P k key = some kl)
    (d : DataW H) (ps : List MemPlace) (hval : R val = some (d, ps))
    (hK : ∀ w', w'.ownsMap P k R b (n + 1) (D.put kl d) → w.grownBy w' (some b) → wpList P ops Q rest (a.put o.dst undef) w') :
    wpList P ops Q (o :: rest) a w := by
  refine wpList_plain hg fun K' hK' => ?_
  obtain ⟨w', hrun, r1, r2⟩ := hown.update K ht hn hkey hval
  unfold Oper.wp
  simp [execOp, hop, hm, hx, hv, hrun, Result.andThen]
  exact hK' _ _ (hK w' r1 r2)

/-- How an element reads: as itself. -/
def selfR (v : Value) : Option (DataW Value × List MemPlace) := some (.held v, [])
theorem keyedS : Keyed Tryd.prog 9 := string_keyed Tryd.underlying9
theorem keyS (s : ByteArray) (h : s.size ≤ maxLen) : keyOf Tryd.prog 9 (.string s) = some (.string s.data.toList) := keyOf_string_mk Tryd.underlying9 h


end Go.Proofs.YtnikhbdjlipcbaaDoor

namespace Go.Proofs.YtnikhbdjlipcbaaDoor
open Go.RowKit Go.Maps Go.WideElems Go.WideShapes Go.ChangeShapes Go.WideMaps

set_option maxHeartbeats 1000000 in
set_option maxRecDepth 100000 in
theorem mletter_any (c : UInt8) (w : World) : Calls Tryd.prog 41 #[.int .u8 (c.toNat : Int)] w (RetB w (letB c)) := by
  have hc : c.toNat < 65 ∨ (65 ≤ c.toNat ∧ c.toNat ≤ 90) ∨ (90 < c.toNat ∧ c.toNat < 97) ∨ (97 ≤ c.toNat ∧ c.toNat ≤ 122) ∨ 122 < c.toNat := by omega
  rcases hc with h | ⟨h, h'⟩ | ⟨h, h'⟩ | ⟨h, h'⟩ | h
  · rw [letB_lo h]
    go_enter Tryd.func41, Tryd.ntmps41
    go_wp2
    go_ret
    exact ⟨ret_bool (by first | rfl | (simp; omega)), rfl⟩
  · rw [letB_cap h h']
    go_enter Tryd.func41, Tryd.ntmps41
    go_wp2
    go_ret
    exact ⟨ret_bool (by first | rfl | (simp; omega)), rfl⟩
  · rw [letB_mid h h']
    go_enter Tryd.func41, Tryd.ntmps41
    go_wp2
    go_ret
    exact ⟨ret_bool (by first | rfl | (simp; omega)), rfl⟩
  · rw [letB_small h h']
    go_enter Tryd.func41, Tryd.ntmps41
    go_wp2
    go_ret
    exact ⟨ret_bool (by first | rfl | (simp; omega)), rfl⟩
  · rw [letB_hi h]
    go_enter Tryd.func41, Tryd.ntmps41
    go_wp2
    go_ret
    exact ⟨ret_bool (by first | rfl | (simp; omega)), rfl⟩
theorem mletter_is {c : UInt8} {b : Bool} (h : letB c = b) : Hid (∀ W, Calls Tryd.prog 41 #[.int .u8 (c.toNat : Int)] W (RetB W b)) := fun W => h ▸ mletter_any c W
set_option maxHeartbeats 1000000 in
set_option maxRecDepth 100000 in
theorem minner_any (c : UInt8) (w : World) : Calls Tryd.prog 42 #[.int .u8 (c.toNat : Int)] w (RetB w (letB c || othB c)) := by
  cases hb : letB c with
  | true =>
    have HB := mletter_is hb
    go_enter Tryd.func42, Tryd.ntmps42
    go_wp2_with fail
    refine (HB.out _).mono ?_
    rintro e w' ⟨rfl, rfl⟩
    go_wp2_with fail
    go_ret
    exact ⟨rfl, rfl⟩
  | false =>
    have HB := mletter_is hb
    have hlt := c.toNat_lt
    have hc : (0 ≤ c.toNat ∧ c.toNat ≤ 44) ∨ (45 ≤ c.toNat ∧ c.toNat ≤ 45) ∨ (46 ≤ c.toNat ∧ c.toNat ≤ 47) ∨ (48 ≤ c.toNat ∧ c.toNat ≤ 57) ∨ (58 ≤ c.toNat ∧ c.toNat ≤ 94) ∨ (95 ≤ c.toNat ∧ c.toNat ≤ 95) ∨ (96 ≤ c.toNat ∧ c.toNat ≤ 255) := by omega
    rcases hc with ⟨c1, c2⟩ | ⟨c1, c2⟩ | ⟨c1, c2⟩ | ⟨c1, c2⟩ | ⟨c1, c2⟩ | ⟨c1, c2⟩ | ⟨c1, c2⟩
    · have ho : othB c = false := by unfold othB; simp; omega
      rw [ho]
      go_enter Tryd.func42, Tryd.ntmps42
      go_wp2_with fail
      refine (HB.out _).mono ?_
      rintro e w' ⟨rfl, rfl⟩
      go_wp2
      go_ret
      exact ⟨ret_bool (by first | rfl | (simp; omega)), rfl⟩
    · have ho : othB c = true := by unfold othB; simp; omega
      rw [ho]
      go_enter Tryd.func42, Tryd.ntmps42
      go_wp2_with fail
      refine (HB.out _).mono ?_
      rintro e w' ⟨rfl, rfl⟩
      go_wp2
      go_ret
      exact ⟨ret_bool (by first | rfl | (simp; omega)), rfl⟩
    · have ho : othB c = false := by unfold othB; simp; omega
      rw [ho]
      go_enter Tryd.func42, Tryd.ntmps42
      go_wp2_with fail
      refine (HB.out _).mono ?_
      rintro e w' ⟨rfl, rfl⟩
      go_wp2
      go_ret
      exact ⟨ret_bool (by first | rfl | (simp; omega)), rfl⟩
    · have ho : othB c = true := by unfold othB; simp; omega
      rw [ho]
      go_enter Tryd.func42, Tryd.ntmps42
      go_wp2_with fail
      refine (HB.out _).mono ?_
      rintro e w' ⟨rfl, rfl⟩
      go_wp2
      go_ret
      exact ⟨ret_bool (by first | rfl | (simp; omega)), rfl⟩
    · have ho : othB c = false := by unfold othB; simp; omega
      rw [ho]
      go_enter Tryd.func42, Tryd.ntmps42
      go_wp2_with fail
      refine (HB.out _).mono ?_
      rintro e w' ⟨rfl, rfl⟩
      go_wp2
      go_ret
      exact ⟨ret_bool (by first | rfl | (simp; omega)), rfl⟩
    · have ho : othB c = true := by unfold othB; simp; omega
      rw [ho]
      go_enter Tryd.func42, Tryd.ntmps42
      go_wp2_with fail
      refine (HB.out _).mono ?_
      rintro e w' ⟨rfl, rfl⟩
      go_wp2
      go_ret
      exact ⟨ret_bool (by first | rfl | (simp; omega)), rfl⟩
    · have ho : othB c = false := by unfold othB; simp; omega
      rw [ho]
      go_enter Tryd.func42, Tryd.ntmps42
      go_wp2_with fail
      refine (HB.out _).mono ?_
      rintro e w' ⟨rfl, rfl⟩
      go_wp2
      go_ret
      exact ⟨ret_bool (by first | rfl | (simp; omega)), rfl⟩
theorem minner_is {c : UInt8} {b : Bool} (h : (letB c || othB c) = b) : Hid (∀ W, Calls Tryd.prog 42 #[.int .u8 (c.toNat : Int)] W (RetB W b)) := fun W => h ▸ minner_any c W
/-- The loop over a name's bytes. -/
def NmR (s : ByteArray) (i : Value) : Prop := ∃ k : Nat, k ≤ s.size ∧ i = .int .i64 k ∧ ∀ c ∈ s.data.toList.take k, (letB c || othB c) = true
theorem nmR_start (s : ByteArray) : NmR s (.int .i64 0) := ⟨0, Nat.zero_le _, rfl, by simp⟩
theorem nmR_next (s : ByteArray) (k : Nat) (hk : k < s.size) (h : ∀ c ∈ s.data.toList.take k, (letB c || othB c) = true) (h1 : (letB s[k] || othB s[k]) = true) :
    ∀ c ∈ s.data.toList.take (k + 1), (letB c || othB c) = true := by
  rw [data_take s k hk]
  intro c hc
  rcases List.mem_append.1 hc with hc | hc
  · exact h c hc
  · rw [List.mem_singleton.1 hc]; exact h1
set_option maxHeartbeats 1000000 in
set_option maxRecDepth 100000 in
theorem mname_loop (s : ByteArray) (w : World) (h0 : 0 < s.size) (h4 : s.size ≤ 40) (h1 : letB s[0] = true) : Calls Tryd.prog 15 #[.string s] w (RetB w (nmB s.data.toList)) := by
  have HL := mletter_is h1
  have HA : Hid ((∀ x ∈ s.data.toList, (letB x || othB x) = true) → nmB s.data.toList = true) := fun h => nmB_ok (by rw [data_len]; omega) (by rw [data_len]; omega) (data_head s h0) h1 h
  clear h1
  go_enter Tryd.func15, Tryd.ntmps15
  go_wp2_with fail
  refine (HL.out _).mono ?_
  rintro e w' ⟨rfl, rfl⟩
  go_wp2_with fail
  go_loop [20] (fun i => NmR s i) (fun i => s.size - (intOf i).toNat)
  case atStart => exact nmR_start s
  case round =>
    obtain ⟨k, hk, rfl, hd⟩ := hrel
    have HD := Lib.hid hd
    clear hd HL
    by_cases hlt : k < s.size
    · cases hb : (letB s[k] || othB s[k]) with
      | true =>
        have HN := Lib.hid (nmR_next s k hlt HD.out hb)
        have HB := minner_is hb
        clear hb HA HD
        go_wp2_with fail
        refine (HB.out _).mono ?_
        rintro e w' ⟨rfl, rfl⟩
        go_wp2_with fail
        go_round
        case rel => exact ⟨k + 1, by omega, by go_num, HN.out⟩
        case measure => simp [intOf]; omega
      | false =>
        have HB := minner_is hb
        have e4 := Lib.hid (nmB_bad (data_mem s k hlt) (by revert hb; cases letB s[k] <;> simp) (by revert hb; cases letB s[k] <;> simp))
        clear hb HA HD
        go_wp2_with fail
        refine (HB.out _).mono ?_
        rintro e w' ⟨rfl, rfl⟩
        go_wp2_with fail
        go_ret
        exact ⟨ret_bool e4.out.symm, rfl⟩
    · have e4 := Lib.hid (HA.out (by
        have := HD.out
        rwa [List.take_of_length_le (by rw [data_len]; omega)] at this))
      clear HA HD
      go_wp2_with fail
      go_ret
      exact ⟨ret_bool e4.out.symm, rfl⟩
set_option maxHeartbeats 1000000 in
set_option maxRecDepth 100000 in
theorem mname_any (s : ByteArray) (w : World) : Calls Tryd.prog 15 #[.string s] w (RetB w (nmB s.data.toList)) := by
  by_cases h0 : s.size < 1
  · rw [nmB_len (.inl (by rw [data_len]; exact h0))]
    go_enter Tryd.func15, Tryd.ntmps15
    go_wp2
    go_ret
    exact ⟨rfl, rfl⟩
  by_cases h4 : 40 < s.size
  · rw [nmB_len (.inr (by rw [data_len]; exact h4))]
    go_enter Tryd.func15, Tryd.ntmps15
    go_wp2
    go_ret
    exact ⟨rfl, rfl⟩
  have h0' : 0 < s.size := by omega
  have h4' : s.size ≤ 40 := by omega
  clear h0 h4
  cases h1 : letB (s[0]'h0') with
  | true => exact mname_loop s w h0' h4' h1
  | false =>
    rw [nmB_head (data_head s h0') h1]
    have HL := mletter_is h1
    clear h1
    go_enter Tryd.func15, Tryd.ntmps15
    go_wp2_with fail
    refine (HL.out _).mono ?_
    rintro e w' ⟨rfl, rfl⟩
    go_wp2_with fail
    go_ret
    exact ⟨rfl, rfl⟩
set_option maxHeartbeats 4000000 in
set_option maxRecDepth 100000 in
theorem rname_loop (s : ByteArray) (w : World) (h0 : 0 < s.size) (h4 : s.size ≤ 40) :
    Calls Tryd.prog 17 #[.string s] w fun e w' => e = .returned (.bool (nmB s.data.toList)) ∧ w = w' := by
  have HH : Hid (letB s[0] = false → nmB s.data.toList = false) := fun h => nmB_head (data_head s h0) h
  have HA : Hid (letB s[0] = true → (∀ x ∈ s.data.toList, (letB x || othB x) = true) → nmB s.data.toList = true) := fun h1 h => nmB_ok (by rw [data_len]; omega) (by rw [data_len]; omega) (data_head s h0) h1 h
  have t0 : ((s.size : Int) == 0) = false := by simp; intro h; rw [h] at h0; exact absurd h0 (by decide)
  go_enter Tryd.func17, Tryd.ntmps17
  go_wp2_with fail
  go_loop [3] (fun i => NmR s i ∧ (0 < (intOf i).toNat → letB s[0] = true)) (fun i => s.size - (intOf i).toNat)
  case atStart => exact ⟨nmR_start s, fun h => absurd h (by simp [intOf])⟩
  case round =>
    obtain ⟨⟨k, hk, rfl, hd⟩, h1⟩ := hrel
    have HD := Lib.hid hd
    have h1' : Hid (0 < k → letB s[0] = true) := fun h => h1 (by simpa [intOf] using h)
    clear hd h1
    by_cases hlt : k < s.size
    · have hb : Hid (∀ b, letB s[k] = b → k = 0 → letB s[0] = b) := fun b hb hk => by subst hk; exact hb
      cases hl : letB s[k] with
      | true =>
        have HN := Lib.hid (nmR_next s k hlt HD.out (by rw [hl]; rfl))
        have H0 : Hid (letB s[0] = true) := by
          rcases Nat.eq_zero_or_pos k with e | e
          · exact hb.out _ hl e
          · exact h1'.out e
        have hc : (65 ≤ s[k].toNat ∧ s[k].toNat ≤ 90) ∨ (97 ≤ s[k].toNat ∧ s[k].toNat ≤ 122) := by unfold letB at hl; simp at hl; omega
        clear hb hl HA HD HH h1'
        rcases hc with ⟨c1, c2⟩ | ⟨c1, c2⟩
        · have p97 : (decide ((97 : Int) ≤ (s[k].toNat : Int))) = false := by simp; omega
          have p122 : (decide ((s[k].toNat : Int) ≤ 122)) = true := by simp; omega
          have p65 : (decide ((65 : Int) ≤ (s[k].toNat : Int))) = true := by simp; omega
          have p90 : (decide ((s[k].toNat : Int) ≤ 90)) = true := by simp; omega
          have p48 : (decide ((48 : Int) ≤ (s[k].toNat : Int))) = true := by simp; omega
          have p57 : (decide ((s[k].toNat : Int) ≤ 57)) = false := by simp; omega
          have e95 : ((s[k].toNat : Int) == 95) = false := by simp; omega
          have n95 : ((s[k].toNat : Int) != 95) = true := by simp; omega
          have e45 : ((s[k].toNat : Int) == 45) = false := by simp; omega
          have n45 : ((s[k].toNat : Int) != 45) = true := by simp; omega
          clear c1 c2
          go_wp2
          go_round
          case rel => exact ⟨⟨k + 1, by omega, by go_num, HN.out⟩, fun _ => H0.out⟩
          case measure => simp [intOf]; omega
        · have p97 : (decide ((97 : Int) ≤ (s[k].toNat : Int))) = true := by simp; omega
          have p122 : (decide ((s[k].toNat : Int) ≤ 122)) = true := by simp; omega
          have p65 : (decide ((65 : Int) ≤ (s[k].toNat : Int))) = true := by simp; omega
          have p90 : (decide ((s[k].toNat : Int) ≤ 90)) = false := by simp; omega
          have p48 : (decide ((48 : Int) ≤ (s[k].toNat : Int))) = true := by simp; omega
          have p57 : (decide ((s[k].toNat : Int) ≤ 57)) = false := by simp; omega
          have e95 : ((s[k].toNat : Int) == 95) = false := by simp; omega
          have n95 : ((s[k].toNat : Int) != 95) = true := by simp; omega
          have e45 : ((s[k].toNat : Int) == 45) = false := by simp; omega
          have n45 : ((s[k].toNat : Int) != 45) = true := by simp; omega
          clear c1 c2
          go_wp2
          go_round
          case rel => exact ⟨⟨k + 1, by omega, by go_num, HN.out⟩, fun _ => H0.out⟩
          case measure => simp [intOf]; omega
      | false =>
        have hl' : s[k].toNat < 65 ∨ (90 < s[k].toNat ∧ s[k].toNat < 97) ∨ 122 < s[k].toNat := by unfold letB at hl; simp at hl; omega
        have hu := s[k].toNat_lt
        by_cases hk0 : k = 0
        · have e4 := Lib.hid (HH.out (hb.out _ hl hk0))
          clear hb hl HA HD HH h1'
          subst hk0
          have hc : (0 ≤ s[0].toNat ∧ s[0].toNat ≤ 44) ∨ (45 ≤ s[0].toNat ∧ s[0].toNat ≤ 45) ∨ (46 ≤ s[0].toNat ∧ s[0].toNat ≤ 47) ∨ (48 ≤ s[0].toNat ∧ s[0].toNat ≤ 57) ∨ (58 ≤ s[0].toNat ∧ s[0].toNat ≤ 64) ∨ (91 ≤ s[0].toNat ∧ s[0].toNat ≤ 94) ∨ (95 ≤ s[0].toNat ∧ s[0].toNat ≤ 95) ∨ (96 ≤ s[0].toNat ∧ s[0].toNat ≤ 96) ∨ (123 ≤ s[0].toNat ∧ s[0].toNat ≤ 255) := by omega
          clear hl' hu
          rcases hc with ⟨c1, c2⟩ | ⟨c1, c2⟩ | ⟨c1, c2⟩ | ⟨c1, c2⟩ | ⟨c1, c2⟩ | ⟨c1, c2⟩ | ⟨c1, c2⟩ | ⟨c1, c2⟩ | ⟨c1, c2⟩
          · have p97 : (decide ((97 : Int) ≤ (s[0].toNat : Int))) = false := by simp; omega
            have p122 : (decide ((s[0].toNat : Int) ≤ 122)) = true := by simp; omega
            have p65 : (decide ((65 : Int) ≤ (s[0].toNat : Int))) = false := by simp; omega
            have p90 : (decide ((s[0].toNat : Int) ≤ 90)) = true := by simp; omega
            have p48 : (decide ((48 : Int) ≤ (s[0].toNat : Int))) = false := by simp; omega
            have p57 : (decide ((s[0].toNat : Int) ≤ 57)) = true := by simp; omega
            have e95 : ((s[0].toNat : Int) == 95) = false := by simp; omega
            have n95 : ((s[0].toNat : Int) != 95) = true := by simp; omega
            have e45 : ((s[0].toNat : Int) == 45) = false := by simp; omega
            have n45 : ((s[0].toNat : Int) != 45) = true := by simp; omega
            clear c1 c2
            go_wp2
            go_ret
            exact ⟨ret_bool e4.out.symm, rfl⟩
          · have p97 : (decide ((97 : Int) ≤ (s[0].toNat : Int))) = false := by simp; omega
            have p122 : (decide ((s[0].toNat : Int) ≤ 122)) = true := by simp; omega
            have p65 : (decide ((65 : Int) ≤ (s[0].toNat : Int))) = false := by simp; omega
            have p90 : (decide ((s[0].toNat : Int) ≤ 90)) = true := by simp; omega
            have p48 : (decide ((48 : Int) ≤ (s[0].toNat : Int))) = false := by simp; omega
            have p57 : (decide ((s[0].toNat : Int) ≤ 57)) = true := by simp; omega
            have e95 : ((s[0].toNat : Int) == 95) = false := by simp; omega
            have n95 : ((s[0].toNat : Int) != 95) = true := by simp; omega
            have e45 : ((s[0].toNat : Int) == 45) = true := by simp; omega
            have n45 : ((s[0].toNat : Int) != 45) = false := by simp; omega
            clear c1 c2
            go_wp2
            go_ret
            exact ⟨ret_bool e4.out.symm, rfl⟩
          · have p97 : (decide ((97 : Int) ≤ (s[0].toNat : Int))) = false := by simp; omega
            have p122 : (decide ((s[0].toNat : Int) ≤ 122)) = true := by simp; omega
            have p65 : (decide ((65 : Int) ≤ (s[0].toNat : Int))) = false := by simp; omega
            have p90 : (decide ((s[0].toNat : Int) ≤ 90)) = true := by simp; omega
            have p48 : (decide ((48 : Int) ≤ (s[0].toNat : Int))) = false := by simp; omega
            have p57 : (decide ((s[0].toNat : Int) ≤ 57)) = true := by simp; omega
            have e95 : ((s[0].toNat : Int) == 95) = false := by simp; omega
            have n95 : ((s[0].toNat : Int) != 95) = true := by simp; omega
            have e45 : ((s[0].toNat : Int) == 45) = false := by simp; omega
            have n45 : ((s[0].toNat : Int) != 45) = true := by simp; omega
            clear c1 c2
            go_wp2
            go_ret
            exact ⟨ret_bool e4.out.symm, rfl⟩
          · have p97 : (decide ((97 : Int) ≤ (s[0].toNat : Int))) = false := by simp; omega
            have p122 : (decide ((s[0].toNat : Int) ≤ 122)) = true := by simp; omega
            have p65 : (decide ((65 : Int) ≤ (s[0].toNat : Int))) = false := by simp; omega
            have p90 : (decide ((s[0].toNat : Int) ≤ 90)) = true := by simp; omega
            have p48 : (decide ((48 : Int) ≤ (s[0].toNat : Int))) = true := by simp; omega
            have p57 : (decide ((s[0].toNat : Int) ≤ 57)) = true := by simp; omega
            have e95 : ((s[0].toNat : Int) == 95) = false := by simp; omega
            have n95 : ((s[0].toNat : Int) != 95) = true := by simp; omega
            have e45 : ((s[0].toNat : Int) == 45) = false := by simp; omega
            have n45 : ((s[0].toNat : Int) != 45) = true := by simp; omega
            clear c1 c2
            go_wp2
            go_ret
            exact ⟨ret_bool e4.out.symm, rfl⟩
          · have p97 : (decide ((97 : Int) ≤ (s[0].toNat : Int))) = false := by simp; omega
            have p122 : (decide ((s[0].toNat : Int) ≤ 122)) = true := by simp; omega
            have p65 : (decide ((65 : Int) ≤ (s[0].toNat : Int))) = false := by simp; omega
            have p90 : (decide ((s[0].toNat : Int) ≤ 90)) = true := by simp; omega
            have p48 : (decide ((48 : Int) ≤ (s[0].toNat : Int))) = true := by simp; omega
            have p57 : (decide ((s[0].toNat : Int) ≤ 57)) = false := by simp; omega
            have e95 : ((s[0].toNat : Int) == 95) = false := by simp; omega
            have n95 : ((s[0].toNat : Int) != 95) = true := by simp; omega
            have e45 : ((s[0].toNat : Int) == 45) = false := by simp; omega
            have n45 : ((s[0].toNat : Int) != 45) = true := by simp; omega
            clear c1 c2
            go_wp2
            go_ret
            exact ⟨ret_bool e4.out.symm, rfl⟩
          · have p97 : (decide ((97 : Int) ≤ (s[0].toNat : Int))) = false := by simp; omega
            have p122 : (decide ((s[0].toNat : Int) ≤ 122)) = true := by simp; omega
            have p65 : (decide ((65 : Int) ≤ (s[0].toNat : Int))) = true := by simp; omega
            have p90 : (decide ((s[0].toNat : Int) ≤ 90)) = false := by simp; omega
            have p48 : (decide ((48 : Int) ≤ (s[0].toNat : Int))) = true := by simp; omega
            have p57 : (decide ((s[0].toNat : Int) ≤ 57)) = false := by simp; omega
            have e95 : ((s[0].toNat : Int) == 95) = false := by simp; omega
            have n95 : ((s[0].toNat : Int) != 95) = true := by simp; omega
            have e45 : ((s[0].toNat : Int) == 45) = false := by simp; omega
            have n45 : ((s[0].toNat : Int) != 45) = true := by simp; omega
            clear c1 c2
            go_wp2
            go_ret
            exact ⟨ret_bool e4.out.symm, rfl⟩
          · have p97 : (decide ((97 : Int) ≤ (s[0].toNat : Int))) = false := by simp; omega
            have p122 : (decide ((s[0].toNat : Int) ≤ 122)) = true := by simp; omega
            have p65 : (decide ((65 : Int) ≤ (s[0].toNat : Int))) = true := by simp; omega
            have p90 : (decide ((s[0].toNat : Int) ≤ 90)) = false := by simp; omega
            have p48 : (decide ((48 : Int) ≤ (s[0].toNat : Int))) = true := by simp; omega
            have p57 : (decide ((s[0].toNat : Int) ≤ 57)) = false := by simp; omega
            have e95 : ((s[0].toNat : Int) == 95) = true := by simp; omega
            have n95 : ((s[0].toNat : Int) != 95) = false := by simp; omega
            have e45 : ((s[0].toNat : Int) == 45) = false := by simp; omega
            have n45 : ((s[0].toNat : Int) != 45) = true := by simp; omega
            clear c1 c2
            go_wp2
            go_ret
            exact ⟨ret_bool e4.out.symm, rfl⟩
          · have p97 : (decide ((97 : Int) ≤ (s[0].toNat : Int))) = false := by simp; omega
            have p122 : (decide ((s[0].toNat : Int) ≤ 122)) = true := by simp; omega
            have p65 : (decide ((65 : Int) ≤ (s[0].toNat : Int))) = true := by simp; omega
            have p90 : (decide ((s[0].toNat : Int) ≤ 90)) = false := by simp; omega
            have p48 : (decide ((48 : Int) ≤ (s[0].toNat : Int))) = true := by simp; omega
            have p57 : (decide ((s[0].toNat : Int) ≤ 57)) = false := by simp; omega
            have e95 : ((s[0].toNat : Int) == 95) = false := by simp; omega
            have n95 : ((s[0].toNat : Int) != 95) = true := by simp; omega
            have e45 : ((s[0].toNat : Int) == 45) = false := by simp; omega
            have n45 : ((s[0].toNat : Int) != 45) = true := by simp; omega
            clear c1 c2
            go_wp2
            go_ret
            exact ⟨ret_bool e4.out.symm, rfl⟩
          · have p97 : (decide ((97 : Int) ≤ (s[0].toNat : Int))) = true := by simp; omega
            have p122 : (decide ((s[0].toNat : Int) ≤ 122)) = false := by simp; omega
            have p65 : (decide ((65 : Int) ≤ (s[0].toNat : Int))) = true := by simp; omega
            have p90 : (decide ((s[0].toNat : Int) ≤ 90)) = false := by simp; omega
            have p48 : (decide ((48 : Int) ≤ (s[0].toNat : Int))) = true := by simp; omega
            have p57 : (decide ((s[0].toNat : Int) ≤ 57)) = false := by simp; omega
            have e95 : ((s[0].toNat : Int) == 95) = false := by simp; omega
            have n95 : ((s[0].toNat : Int) != 95) = true := by simp; omega
            have e45 : ((s[0].toNat : Int) == 45) = false := by simp; omega
            have n45 : ((s[0].toNat : Int) != 45) = true := by simp; omega
            clear c1 c2
            go_wp2
            go_ret
            exact ⟨ret_bool e4.out.symm, rfl⟩
        · have H0 := Lib.hid (h1'.out (by omega))
          have ek : ((k : Int) == 0) = false := by simp; omega
          cases ho : othB s[k] with
          | true =>
            have HN := Lib.hid (nmR_next s k hlt HD.out (by rw [ho]; simp))
            have hc : (48 ≤ s[k].toNat ∧ s[k].toNat ≤ 57) ∨ (95 ≤ s[k].toNat ∧ s[k].toNat ≤ 95) ∨ (45 ≤ s[k].toNat ∧ s[k].toNat ≤ 45) := by unfold othB at ho; simp at ho; omega
            clear hb hl hl' hu ho HA HD HH h1'
            rcases hc with ⟨c1, c2⟩ | ⟨c1, c2⟩ | ⟨c1, c2⟩
            · have p97 : (decide ((97 : Int) ≤ (s[k].toNat : Int))) = false := by simp; omega
              have p122 : (decide ((s[k].toNat : Int) ≤ 122)) = true := by simp; omega
              have p65 : (decide ((65 : Int) ≤ (s[k].toNat : Int))) = false := by simp; omega
              have p90 : (decide ((s[k].toNat : Int) ≤ 90)) = true := by simp; omega
              have p48 : (decide ((48 : Int) ≤ (s[k].toNat : Int))) = true := by simp; omega
              have p57 : (decide ((s[k].toNat : Int) ≤ 57)) = true := by simp; omega
              have e95 : ((s[k].toNat : Int) == 95) = false := by simp; omega
              have n95 : ((s[k].toNat : Int) != 95) = true := by simp; omega
              have e45 : ((s[k].toNat : Int) == 45) = false := by simp; omega
              have n45 : ((s[k].toNat : Int) != 45) = true := by simp; omega
              clear c1 c2
              go_wp2
              go_round
              case rel => exact ⟨⟨k + 1, by omega, by go_num, HN.out⟩, fun _ => H0.out⟩
              case measure => simp [intOf]; omega
            · have p97 : (decide ((97 : Int) ≤ (s[k].toNat : Int))) = false := by simp; omega
              have p122 : (decide ((s[k].toNat : Int) ≤ 122)) = true := by simp; omega
              have p65 : (decide ((65 : Int) ≤ (s[k].toNat : Int))) = true := by simp; omega
              have p90 : (decide ((s[k].toNat : Int) ≤ 90)) = false := by simp; omega
              have p48 : (decide ((48 : Int) ≤ (s[k].toNat : Int))) = true := by simp; omega
              have p57 : (decide ((s[k].toNat : Int) ≤ 57)) = false := by simp; omega
              have e95 : ((s[k].toNat : Int) == 95) = true := by simp; omega
              have n95 : ((s[k].toNat : Int) != 95) = false := by simp; omega
              have e45 : ((s[k].toNat : Int) == 45) = false := by simp; omega
              have n45 : ((s[k].toNat : Int) != 45) = true := by simp; omega
              clear c1 c2
              go_wp2
              go_round
              case rel => exact ⟨⟨k + 1, by omega, by go_num, HN.out⟩, fun _ => H0.out⟩
              case measure => simp [intOf]; omega
            · have p97 : (decide ((97 : Int) ≤ (s[k].toNat : Int))) = false := by simp; omega
              have p122 : (decide ((s[k].toNat : Int) ≤ 122)) = true := by simp; omega
              have p65 : (decide ((65 : Int) ≤ (s[k].toNat : Int))) = false := by simp; omega
              have p90 : (decide ((s[k].toNat : Int) ≤ 90)) = true := by simp; omega
              have p48 : (decide ((48 : Int) ≤ (s[k].toNat : Int))) = false := by simp; omega
              have p57 : (decide ((s[k].toNat : Int) ≤ 57)) = true := by simp; omega
              have e95 : ((s[k].toNat : Int) == 95) = false := by simp; omega
              have n95 : ((s[k].toNat : Int) != 95) = true := by simp; omega
              have e45 : ((s[k].toNat : Int) == 45) = true := by simp; omega
              have n45 : ((s[k].toNat : Int) != 45) = false := by simp; omega
              clear c1 c2
              go_wp2
              go_round
              case rel => exact ⟨⟨k + 1, by omega, by go_num, HN.out⟩, fun _ => H0.out⟩
              case measure => simp [intOf]; omega
          | false =>
            have e4 := Lib.hid (nmB_bad (data_mem s k hlt) hl ho)
            have hc : (0 ≤ s[k].toNat ∧ s[k].toNat ≤ 44) ∨ (46 ≤ s[k].toNat ∧ s[k].toNat ≤ 47) ∨ (58 ≤ s[k].toNat ∧ s[k].toNat ≤ 64) ∨ (91 ≤ s[k].toNat ∧ s[k].toNat ≤ 94) ∨ (96 ≤ s[k].toNat ∧ s[k].toNat ≤ 96) ∨ (123 ≤ s[k].toNat ∧ s[k].toNat ≤ 255) := by
              unfold othB at ho; simp at ho; omega
            clear hb hl hl' hu ho HA HD HH h1'
            rcases hc with ⟨c1, c2⟩ | ⟨c1, c2⟩ | ⟨c1, c2⟩ | ⟨c1, c2⟩ | ⟨c1, c2⟩ | ⟨c1, c2⟩
            · have p97 : (decide ((97 : Int) ≤ (s[k].toNat : Int))) = false := by simp; omega
              have p122 : (decide ((s[k].toNat : Int) ≤ 122)) = true := by simp; omega
              have p65 : (decide ((65 : Int) ≤ (s[k].toNat : Int))) = false := by simp; omega
              have p90 : (decide ((s[k].toNat : Int) ≤ 90)) = true := by simp; omega
              have p48 : (decide ((48 : Int) ≤ (s[k].toNat : Int))) = false := by simp; omega
              have p57 : (decide ((s[k].toNat : Int) ≤ 57)) = true := by simp; omega
              have e95 : ((s[k].toNat : Int) == 95) = false := by simp; omega
              have n95 : ((s[k].toNat : Int) != 95) = true := by simp; omega
              have e45 : ((s[k].toNat : Int) == 45) = false := by simp; omega
              have n45 : ((s[k].toNat : Int) != 45) = true := by simp; omega
              clear c1 c2
              go_wp2
              go_ret
              exact ⟨ret_bool e4.out.symm, rfl⟩
            · have p97 : (decide ((97 : Int) ≤ (s[k].toNat : Int))) = false := by simp; omega
              have p122 : (decide ((s[k].toNat : Int) ≤ 122)) = true := by simp; omega
              have p65 : (decide ((65 : Int) ≤ (s[k].toNat : Int))) = false := by simp; omega
              have p90 : (decide ((s[k].toNat : Int) ≤ 90)) = true := by simp; omega
              have p48 : (decide ((48 : Int) ≤ (s[k].toNat : Int))) = false := by simp; omega
              have p57 : (decide ((s[k].toNat : Int) ≤ 57)) = true := by simp; omega
              have e95 : ((s[k].toNat : Int) == 95) = false := by simp; omega
              have n95 : ((s[k].toNat : Int) != 95) = true := by simp; omega
              have e45 : ((s[k].toNat : Int) == 45) = false := by simp; omega
              have n45 : ((s[k].toNat : Int) != 45) = true := by simp; omega
              clear c1 c2
              go_wp2
              go_ret
              exact ⟨ret_bool e4.out.symm, rfl⟩
            · have p97 : (decide ((97 : Int) ≤ (s[k].toNat : Int))) = false := by simp; omega
              have p122 : (decide ((s[k].toNat : Int) ≤ 122)) = true := by simp; omega
              have p65 : (decide ((65 : Int) ≤ (s[k].toNat : Int))) = false := by simp; omega
              have p90 : (decide ((s[k].toNat : Int) ≤ 90)) = true := by simp; omega
              have p48 : (decide ((48 : Int) ≤ (s[k].toNat : Int))) = true := by simp; omega
              have p57 : (decide ((s[k].toNat : Int) ≤ 57)) = false := by simp; omega
              have e95 : ((s[k].toNat : Int) == 95) = false := by simp; omega
              have n95 : ((s[k].toNat : Int) != 95) = true := by simp; omega
              have e45 : ((s[k].toNat : Int) == 45) = false := by simp; omega
              have n45 : ((s[k].toNat : Int) != 45) = true := by simp; omega
              clear c1 c2
              go_wp2
              go_ret
              exact ⟨ret_bool e4.out.symm, rfl⟩
            · have p97 : (decide ((97 : Int) ≤ (s[k].toNat : Int))) = false := by simp; omega
              have p122 : (decide ((s[k].toNat : Int) ≤ 122)) = true := by simp; omega
              have p65 : (decide ((65 : Int) ≤ (s[k].toNat : Int))) = true := by simp; omega
              have p90 : (decide ((s[k].toNat : Int) ≤ 90)) = false := by simp; omega
              have p48 : (decide ((48 : Int) ≤ (s[k].toNat : Int))) = true := by simp; omega
              have p57 : (decide ((s[k].toNat : Int) ≤ 57)) = false := by simp; omega
              have e95 : ((s[k].toNat : Int) == 95) = false := by simp; omega
              have n95 : ((s[k].toNat : Int) != 95) = true := by simp; omega
              have e45 : ((s[k].toNat : Int) == 45) = false := by simp; omega
              have n45 : ((s[k].toNat : Int) != 45) = true := by simp; omega
              clear c1 c2
              go_wp2
              go_ret
              exact ⟨ret_bool e4.out.symm, rfl⟩
            · have p97 : (decide ((97 : Int) ≤ (s[k].toNat : Int))) = false := by simp; omega
              have p122 : (decide ((s[k].toNat : Int) ≤ 122)) = true := by simp; omega
              have p65 : (decide ((65 : Int) ≤ (s[k].toNat : Int))) = true := by simp; omega
              have p90 : (decide ((s[k].toNat : Int) ≤ 90)) = false := by simp; omega
              have p48 : (decide ((48 : Int) ≤ (s[k].toNat : Int))) = true := by simp; omega
              have p57 : (decide ((s[k].toNat : Int) ≤ 57)) = false := by simp; omega
              have e95 : ((s[k].toNat : Int) == 95) = false := by simp; omega
              have n95 : ((s[k].toNat : Int) != 95) = true := by simp; omega
              have e45 : ((s[k].toNat : Int) == 45) = false := by simp; omega
              have n45 : ((s[k].toNat : Int) != 45) = true := by simp; omega
              clear c1 c2
              go_wp2
              go_ret
              exact ⟨ret_bool e4.out.symm, rfl⟩
            · have p97 : (decide ((97 : Int) ≤ (s[k].toNat : Int))) = true := by simp; omega
              have p122 : (decide ((s[k].toNat : Int) ≤ 122)) = false := by simp; omega
              have p65 : (decide ((65 : Int) ≤ (s[k].toNat : Int))) = true := by simp; omega
              have p90 : (decide ((s[k].toNat : Int) ≤ 90)) = false := by simp; omega
              have p48 : (decide ((48 : Int) ≤ (s[k].toNat : Int))) = true := by simp; omega
              have p57 : (decide ((s[k].toNat : Int) ≤ 57)) = false := by simp; omega
              have e95 : ((s[k].toNat : Int) == 95) = false := by simp; omega
              have n95 : ((s[k].toNat : Int) != 95) = true := by simp; omega
              have e45 : ((s[k].toNat : Int) == 45) = false := by simp; omega
              have n45 : ((s[k].toNat : Int) != 45) = true := by simp; omega
              clear c1 c2
              go_wp2
              go_ret
              exact ⟨ret_bool e4.out.symm, rfl⟩
    · have e4 := Lib.hid (HA.out (h1'.out (by omega)) (by
        have := HD.out
        rwa [List.take_of_length_le (by rw [data_len]; omega)] at this))
      clear HA HD HH h1'
      go_wp2
      go_ret
      exact ⟨ret_bool e4.out.symm, rfl⟩

set_option maxHeartbeats 1000000 in
set_option maxRecDepth 100000 in
theorem rname_any (s : ByteArray) (w : World) : Calls Tryd.prog 17 #[.string s] w (RetB w (nmB s.data.toList)) := by
  by_cases h0 : s.size < 1
  · rw [nmB_len (.inl (by rw [data_len]; exact h0))]
    go_enter Tryd.func17, Tryd.ntmps17
    go_wp2
    go_ret
    exact ⟨rfl, rfl⟩
  by_cases h4 : 40 < s.size
  · rw [nmB_len (.inr (by rw [data_len]; exact h4))]
    go_enter Tryd.func17, Tryd.ntmps17
    go_wp2
    go_ret
    exact ⟨rfl, rfl⟩
  exact rname_loop s w (by omega) (by omega)

/-- The digits of a currency's unit; 2 where it isn't named. -/
def spU (l : List UInt8) : Option Nat := if l = [74, 80, 89] then some 0 else if l = [75, 82, 87] then some 0 else if l = [86, 78, 68] then some 0 else if l = [66, 72, 68] then some 3 else if l = [75, 87, 68] then some 3 else if l = [84, 78, 68] then some 3 else none
def unitOf (l : List UInt8) : Option Nat := if nmB l = true then some ((spU l).getD 2) else none
def unitsD : DataW Value := (((((((DataW.map []).put (.string [74, 80, 89]) (.held (.int .i64 0))).put (.string [75, 82, 87]) (.held (.int .i64 0))).put (.string [86, 78, 68]) (.held (.int .i64 0))).put (.string [66, 72, 68]) (.held (.int .i64 3))).put (.string [75, 87, 68]) (.held (.int .i64 3))).put (.string [84, 78, 68]) (.held (.int .i64 3)))
theorem unitsD_look (l : List UInt8) : unitsD.atKey (.string l) (.held (.int .i64 0)) = .held (.int .i64 (((spU l).getD 0 : Nat) : Int)) ∧ Maps.has unitsD (.string l) = (spU l).isSome := by
  by_cases hJPY : l = [74, 80, 89]
  · subst hJPY; exact ⟨by kernel_rfl, by kernel_rfl⟩
  by_cases hKRW : l = [75, 82, 87]
  · subst hKRW; exact ⟨by kernel_rfl, by kernel_rfl⟩
  by_cases hVND : l = [86, 78, 68]
  · subst hVND; exact ⟨by kernel_rfl, by kernel_rfl⟩
  by_cases hBHD : l = [66, 72, 68]
  · subst hBHD; exact ⟨by kernel_rfl, by kernel_rfl⟩
  by_cases hKWD : l = [75, 87, 68]
  · subst hKWD; exact ⟨by kernel_rfl, by kernel_rfl⟩
  by_cases hTND : l = [84, 78, 68]
  · subst hTND; exact ⟨by kernel_rfl, by kernel_rfl⟩
  have hk : spU l = none := by unfold spU; simp [hJPY, hKRW, hVND, hBHD, hKWD, hTND]
  have nJPY : Lit.string l ≠ Lit.string [74, 80, 89] := by simpa using hJPY
  have nKRW : Lit.string l ≠ Lit.string [75, 82, 87] := by simpa using hKRW
  have nVND : Lit.string l ≠ Lit.string [86, 78, 68] := by simpa using hVND
  have nBHD : Lit.string l ≠ Lit.string [66, 72, 68] := by simpa using hBHD
  have nKWD : Lit.string l ≠ Lit.string [75, 87, 68] := by simpa using hKWD
  have nTND : Lit.string l ≠ Lit.string [84, 78, 68] := by simpa using hTND
  unfold unitsD
  rw [atKey_put_other nTND, atKey_put_other nKWD, atKey_put_other nBHD, atKey_put_other nVND, atKey_put_other nKRW, atKey_put_other nJPY, has_put_other nTND, has_put_other nKWD, has_put_other nBHD, has_put_other nVND, has_put_other nKRW, has_put_other nJPY, hk]
  exact ⟨rfl, rfl⟩
theorem units_look {w : World} {b : Nat} (h : w.ownsMap Tryd.prog 9 selfR b 6 unitsD) (s : ByteArray) (hs : s.size ≤ maxLen) :
    (Instr.lookup 46 (.map (some b)) (.string s) true).run Tryd.prog w = .ok (.tuple #[.int .i64 (((spU s.data.toList).getD 0 : Nat) : Int), .bool (spU s.data.toList).isSome]) w := by
  obtain ⟨x, ps, hrun, hx⟩ := h.look_ok keyedS Tryd.underlying46 (z := .int .i64 0) (by kernel_rfl) rfl (keyS s hs)
  rw [(unitsD_look _).1] at hx
  rw [(unitsD_look _).2] at hrun
  have : x = .int .i64 (((spU s.data.toList).getD 0 : Nat) : Int) := by
    have := congrArg (fun o => o.map (·.1)) hx
    simp [selfR] at this
    exact this
  rw [← this, hrun]
set_option maxHeartbeats 2000000 in
set_option maxRecDepth 100000 in
theorem units_any (w : World) : Calls Tryd.prog 16 #[] w fun e w' => e = .returned (.map (some w.heap.size)) ∧ w'.ownsMap Tryd.prog 9 selfR w.heap.size 6 unitsD ∧ Below w.heap.size w w' := by
  have hmm := @run_makeMap Tryd.prog
  have h0 := World.ownsMap_made w Tryd.prog 9 selfR
  have b0 := own_below w (.map #[] 0)
  go_enter Tryd.func16, Tryd.ntmps16
  go_wp2_with (refine wpList_insert_own _ rfl _ _ _ 46 rfl 9 3 keyedS Tryd.underlying46 selfR w.heap.size 0 _ rfl h0 (by unfold maxLen; omega) _ _ _ rfl rfl (keyS ⟨#[74, 80, 89]⟩ (by decide)) _ [] rfl ?_)
  intro w1 h1 g1
  have b1 := b0.grown g1 (by simp) (fun k hk => by cases hk; exact Nat.le_refl _)
  clear h0 b0 g1
  go_wp2_with (refine wpList_insert_own _ rfl _ _ _ 46 rfl 9 3 keyedS Tryd.underlying46 selfR w.heap.size 1 _ rfl h1 (by unfold maxLen; omega) _ _ _ rfl rfl (keyS ⟨#[75, 82, 87]⟩ (by decide)) _ [] rfl ?_)
  intro w2 h2 g2
  have b2 := b1.grown g2 b1.size (fun k hk => by cases hk; exact Nat.le_refl _)
  clear h1 b1 g2
  go_wp2_with (refine wpList_insert_own _ rfl _ _ _ 46 rfl 9 3 keyedS Tryd.underlying46 selfR w.heap.size 2 _ rfl h2 (by unfold maxLen; omega) _ _ _ rfl rfl (keyS ⟨#[86, 78, 68]⟩ (by decide)) _ [] rfl ?_)
  intro w3 h3 g3
  have b3 := b2.grown g3 b2.size (fun k hk => by cases hk; exact Nat.le_refl _)
  clear h2 b2 g3
  go_wp2_with (refine wpList_insert_own _ rfl _ _ _ 46 rfl 9 3 keyedS Tryd.underlying46 selfR w.heap.size 3 _ rfl h3 (by unfold maxLen; omega) _ _ _ rfl rfl (keyS ⟨#[66, 72, 68]⟩ (by decide)) _ [] rfl ?_)
  intro w4 h4 g4
  have b4 := b3.grown g4 b3.size (fun k hk => by cases hk; exact Nat.le_refl _)
  clear h3 b3 g4
  go_wp2_with (refine wpList_insert_own _ rfl _ _ _ 46 rfl 9 3 keyedS Tryd.underlying46 selfR w.heap.size 4 _ rfl h4 (by unfold maxLen; omega) _ _ _ rfl rfl (keyS ⟨#[75, 87, 68]⟩ (by decide)) _ [] rfl ?_)
  intro w5 h5 g5
  have b5 := b4.grown g5 b4.size (fun k hk => by cases hk; exact Nat.le_refl _)
  clear h4 b4 g5
  go_wp2_with (refine wpList_insert_own _ rfl _ _ _ 46 rfl 9 3 keyedS Tryd.underlying46 selfR w.heap.size 5 _ rfl h5 (by unfold maxLen; omega) _ _ _ rfl rfl (keyS ⟨#[84, 78, 68]⟩ (by decide)) _ [] rfl ?_)
  intro w6 h6 g6
  have b6 := b5.grown g6 b5.size (fun k hk => by cases hk; exact Nat.le_refl _)
  clear h5 b5 g6
  go_wp2_with fail
  go_ret
  exact ⟨rfl, h6, b6⟩

def UnitP (w : World) (o : Option Nat) (e : Ending) (w' : World) : Prop := e = .returned (.tuple #[.int .i64 ((o.getD 0 : Nat) : Int), .int .i64 (if o.isSome = true then 0 else 2)]) ∧ Below w.heap.size w w'
set_option maxHeartbeats 2000000 in
set_option maxRecDepth 100000 in
theorem munit_any (s : ByteArray) (w : World) : Calls Tryd.prog 5 #[.string s] w (UnitP w (unitOf s.data.toList)) := by
  have HN := Lib.hid (fun W => mname_any s W)
  cases hn : nmB s.data.toList with
  | false =>
    rw [hn] at HN
    unfold unitOf
    rw [hn]
    clear hn
    go_enter Tryd.func5, Tryd.ntmps5
    go_wp2_with fail
    refine (HN.out _).mono ?_
    rintro e w' ⟨rfl, rfl⟩
    go_wp2_with fail
    go_ret2
    exact ⟨rfl, Below.refl _ _⟩
  | true =>
    rw [hn] at HN
    have hs : s.size ≤ maxLen := by
      have h := hn
      unfold nmB at h
      simp only [Bool.and_eq_true, decide_eq_true_eq] at h
      rw [← data_len]; unfold maxLen; omega
    have HU := Lib.hid (fun (W : World) b (h : W.ownsMap Tryd.prog 9 selfR b 6 unitsD) => units_look h s hs)
    unfold unitOf
    rw [hn]
    simp only [if_true]
    cases ho : spU s.data.toList with
    | none =>
      rw [ho] at HU
      clear hn hs ho
      go_enter Tryd.func5, Tryd.ntmps5
      go_wp2_with fail
      refine (HN.out _).mono ?_
      rintro e w' ⟨rfl, rfl⟩
      go_wp2_with fail
      refine (units_any _).mono ?_
      rintro e w2 ⟨rfl, how, b2⟩
      have hl := HU.out _ _ how
      have B2 := Lib.hid b2
      clear how b2
      go_wp2_with fail
      go_ret2
      exact ⟨rfl, B2.out⟩
    | some u =>
      rw [ho] at HU
      clear hn hs ho
      go_enter Tryd.func5, Tryd.ntmps5
      go_wp2_with fail
      refine (HN.out _).mono ?_
      rintro e w' ⟨rfl, rfl⟩
      go_wp2_with fail
      refine (units_any _).mono ?_
      rintro e w2 ⟨rfl, how, b2⟩
      have hl := HU.out _ _ how
      have B2 := Lib.hid b2
      clear how b2
      go_wp2_with fail
      go_ret2
      exact ⟨rfl, B2.out⟩
theorem tl_eq {x : ByteArray} {l : List UInt8} (h : x.data.toList = l) : (x.toList == l) = true := by rw [Lib.toList_data, h]; simp
theorem tl_ne {x : ByteArray} {l : List UInt8} (h : x.data.toList ≠ l) : (x.toList == l) = false := by rw [Lib.toList_data]; simpa using h
set_option maxHeartbeats 2000000 in
set_option maxRecDepth 100000 in
theorem runit_any (s : ByteArray) (w : World) : Calls Tryd.prog 6 #[.string s] w (UnitP w (unitOf s.data.toList)) := by
  have HN := Lib.hid (fun W => rname_any s W)
  cases hn : nmB s.data.toList with
  | false =>
    rw [hn] at HN
    unfold unitOf
    rw [hn]
    clear hn
    go_enter Tryd.func6, Tryd.ntmps6
    go_wp2_with fail
    refine (HN.out _).mono ?_
    rintro e w' ⟨rfl, rfl⟩
    go_wp2_with fail
    go_ret2
    exact ⟨rfl, Below.refl _ _⟩
  | true =>
    rw [hn] at HN
    unfold unitOf
    rw [hn]
    simp only [if_true]
    clear hn
    by_cases k0 : s.data.toList = [74, 80, 89]
    · have e : spU s.data.toList = some 0 := by rw [k0]; rfl
      rw [e]
      have t0 := tl_eq k0
      clear e k0
      go_enter Tryd.func6, Tryd.ntmps6
      go_wp2_with fail
      refine (HN.out _).mono ?_
      rintro e w' ⟨rfl, rfl⟩
      go_wp2_with fail
      go_ret2
      exact ⟨rfl, Below.refl _ _⟩
    by_cases k1 : s.data.toList = [75, 82, 87]
    · have e : spU s.data.toList = some 0 := by rw [k1]; rfl
      rw [e]
      have t0 := tl_ne k0
      have t1 := tl_eq k1
      clear e k0 k1
      go_enter Tryd.func6, Tryd.ntmps6
      go_wp2_with fail
      refine (HN.out _).mono ?_
      rintro e w' ⟨rfl, rfl⟩
      go_wp2_with fail
      go_ret2
      exact ⟨rfl, Below.refl _ _⟩
    by_cases k2 : s.data.toList = [86, 78, 68]
    · have e : spU s.data.toList = some 0 := by rw [k2]; rfl
      rw [e]
      have t0 := tl_ne k0
      have t1 := tl_ne k1
      have t2 := tl_eq k2
      clear e k0 k1 k2
      go_enter Tryd.func6, Tryd.ntmps6
      go_wp2_with fail
      refine (HN.out _).mono ?_
      rintro e w' ⟨rfl, rfl⟩
      go_wp2_with fail
      go_ret2
      exact ⟨rfl, Below.refl _ _⟩
    by_cases k3 : s.data.toList = [66, 72, 68]
    · have e : spU s.data.toList = some 3 := by rw [k3]; rfl
      rw [e]
      have t0 := tl_ne k0
      have t1 := tl_ne k1
      have t2 := tl_ne k2
      have t3 := tl_eq k3
      clear e k0 k1 k2 k3
      go_enter Tryd.func6, Tryd.ntmps6
      go_wp2_with fail
      refine (HN.out _).mono ?_
      rintro e w' ⟨rfl, rfl⟩
      go_wp2_with fail
      go_ret2
      exact ⟨rfl, Below.refl _ _⟩
    by_cases k4 : s.data.toList = [75, 87, 68]
    · have e : spU s.data.toList = some 3 := by rw [k4]; rfl
      rw [e]
      have t0 := tl_ne k0
      have t1 := tl_ne k1
      have t2 := tl_ne k2
      have t3 := tl_ne k3
      have t4 := tl_eq k4
      clear e k0 k1 k2 k3 k4
      go_enter Tryd.func6, Tryd.ntmps6
      go_wp2_with fail
      refine (HN.out _).mono ?_
      rintro e w' ⟨rfl, rfl⟩
      go_wp2_with fail
      go_ret2
      exact ⟨rfl, Below.refl _ _⟩
    by_cases k5 : s.data.toList = [84, 78, 68]
    · have e : spU s.data.toList = some 3 := by rw [k5]; rfl
      rw [e]
      have t0 := tl_ne k0
      have t1 := tl_ne k1
      have t2 := tl_ne k2
      have t3 := tl_ne k3
      have t4 := tl_ne k4
      have t5 := tl_eq k5
      clear e k0 k1 k2 k3 k4 k5
      go_enter Tryd.func6, Tryd.ntmps6
      go_wp2_with fail
      refine (HN.out _).mono ?_
      rintro e w' ⟨rfl, rfl⟩
      go_wp2_with fail
      go_ret2
      exact ⟨rfl, Below.refl _ _⟩
    have e : spU s.data.toList = none := by unfold spU; simp [k0, k1, k2, k3, k4, k5]
    rw [e]
    have t0 := tl_ne k0
    have t1 := tl_ne k1
    have t2 := tl_ne k2
    have t3 := tl_ne k3
    have t4 := tl_ne k4
    have t5 := tl_ne k5
    clear e k0 k1 k2 k3 k4 k5
    go_enter Tryd.func6, Tryd.ntmps6
    go_wp2_with fail
    refine (HN.out _).mono ?_
    rintro e w' ⟨rfl, rfl⟩
    go_wp2_with fail
    go_ret2
    exact ⟨rfl, Below.refl _ _⟩

end Go.Proofs.YtnikhbdjlipcbaaDoor
