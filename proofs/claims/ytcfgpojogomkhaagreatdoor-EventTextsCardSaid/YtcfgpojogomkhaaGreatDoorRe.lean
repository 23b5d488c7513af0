/-
  Plain law of the reference's event.Parse: numbers come back from their texts; a text is read just where it is that of a valid event. No condition.
-/
import Derived.Test.YtcfgpojogomkhaaGreatDoorRa
import Derived.Test.YtcfgpojogomkhaaGreatDoorWf
namespace Go.Proofs.YtcfgpojogomkhaaGreatDoor
open Go.RowKit

theorem ofNat_dig {d : Nat} (h : d < 10) : (UInt8.ofNat (48 + d)).toNat = 48 + d := by rw [UInt8.toNat_ofNat']; omega
theorem dec_all (n : Nat) : ∀ c ∈ Lib.decDigits n, 48 ≤ c.toNat ∧ c.toNat ≤ 57 := by
  induction n using Nat.strongRecOn with
  | _ n ih =>
    rw [Lib.decDigits]
    split
    · rename_i h
      intro c hc
      rw [List.mem_singleton.1 hc, ofNat_dig h]; omega
    · rename_i h
      intro c hc
      rcases List.mem_append.1 hc with hc | hc
      · exact ih (n / 10) (by omega) c hc
      · rw [List.mem_singleton.1 hc, ofNat_dig (by omega)]; omega
theorem dec_num (n : Nat) : numV (Lib.decDigits n) = n := by
  induction n using Nat.strongRecOn with
  | _ n ih =>
    rw [Lib.decDigits]
    split
    · rename_i h
      show 10 * 0 + ((UInt8.ofNat (48 + n)).toNat - 48) = n
      rw [ofNat_dig h]; omega
    · rename_i h
      rw [numV_snoc, ih (n / 10) (by omega), ofNat_dig (by omega)]; omega
theorem dec_pos (n : Nat) : 1 ≤ (Lib.decDigits n).length := by
  rw [Lib.decDigits]
  split
  · simp
  · simp
theorem dec_head (n : Nat) : 1 < (Lib.decDigits n).length → (Lib.decDigits n).head? ≠ some 48 := by
  induction n using Nat.strongRecOn with
  | _ n ih =>
    intro hl
    rw [Lib.decDigits] at hl ⊢
    split at hl
    · simp at hl
    · rename_i h
      rw [dif_neg h]
      have hp := dec_pos (n / 10)
      have e : (Lib.decDigits (n / 10) ++ [UInt8.ofNat (48 + n % 10)]).head? = (Lib.decDigits (n / 10)).head? := by
        cases hq : Lib.decDigits (n / 10) with
        | nil => rw [hq] at hp; simp at hp
        | cons a l => rfl
      rw [e]
      by_cases h2 : n / 10 < 10
      · rw [Lib.decDigits, dif_pos h2]
        intro h3
        have h4 : UInt8.ofNat (48 + n / 10) = 48 := Option.some.inj h3
        have h5 := congrArg UInt8.toNat h4
        rw [ofNat_dig h2] at h5
        have : (48 : UInt8).toNat = 48 := rfl
        omega
      · refine ih (n / 10) (by omega) ?_
        rw [Lib.decDigits, dif_neg h2, List.length_append]
        have := dec_pos (n / 10 / 10)
        simp; omega
theorem figV_it {n : Int} (h0 : 0 ≤ n) (h1 : n ≤ 1125899906842624) : figV (itS n).data.toList = n := by
  have hl := itS_len h0 h1
  rw [itS_data h0] at hl ⊢
  unfold figV
  rw [if_neg, if_pos (List.all_eq_true.2 fun c hc => decide_eq_true (dec_all _ c hc)), dec_num]
  · omega
  · rintro (h | h | ⟨h, h'⟩)
    · have := dec_pos n.toNat; omega
    · omega
    · exact dec_head _ h h'

/-- A text is read just where it is that of a valid event. -/
theorem reads_iff {s : ByteArray} : ReadsW (wordsOf s) ↔ ∃ x, valB x = true ∧ joinS (textW x) = s := by
  constructor
  · intro h
    exact ⟨_, join_reads h⟩
  · rintro ⟨x, hv, rfl⟩
    exact (reads_join hv).1
theorem reads_ev {x : Ev} {s : ByteArray} (hv : valB x = true) (h : joinS (textW x) = s) : evOf (wordsOf s) = x := by
  subst h; exact (reads_join hv).2
theorem reads_words {s : ByteArray} (h : ReadsW (wordsOf s)) : wordsOf s = textW (evOf (wordsOf s)) := (text_of_reads h).symm

end Go.Proofs.YtcfgpojogomkhaaGreatDoor
