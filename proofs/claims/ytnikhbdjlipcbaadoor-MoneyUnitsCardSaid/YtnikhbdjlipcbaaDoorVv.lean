/-
  The program's Round of rationals, by value. Condition: what the table away holds.
-/
import Derived.Test.YtnikhbdjlipcbaaDoorVu
namespace Go.Proofs.YtnikhbdjlipcbaaDoor
open Go.RowKit Go.Shelf

def rndB (mode Q : Nat) (R D : Nat) : Bool := decide (R ≠ 0) && rndUp mode (decide (Q % 2 = 1)) (cmpZ R ((D : Int) + -(R : Int)))
/-- A quotient, rounded away from zero or not. -/
def rndQ (mode : Nat) (n d : Nat) : Nat := if rndB mode (n / d) (n % d) d = true then n / d + 1 else n / d
/-- Round, by value. -/
def roundZ (mode : Nat) (n d : Int) : Int := if mode = 4 then n / d else if n < 0 then -(rndQ mode n.natAbs d.natAbs : Int) else rndQ mode n.natAbs d.natAbs
theorem txtN_last (Q : Nat) : ∃ A, txtN Q = A ++ [dgB (Q % 10)] := by
  by_cases h : Q < 10
  · exact ⟨[], by unfold txtN; rw [decN_small h, show Q % 10 = Q by omega]; rfl⟩
  · exact ⟨txtN (Q / 10), by unfold txtN; rw [decN_big (by omega)]; simp⟩
theorem last_at {b : ByteArray} {A : List UInt8} {c : UInt8} (h : b.data.toList = A ++ [c]) (h0 : 0 < b.size) : b[b.size - 1]'(by omega) = c := by
  have hl : A.length + 1 = b.size := by rw [← data_len, h]; simp
  have h1 := Lib.data_getElem? b (b.size - 1) (by omega)
  have h2 : (A ++ [c])[b.size - 1]? = some c := by rw [show b.size - 1 = A.length by omega]; simp
  rw [h, h2] at h1
  exact (Option.some.inj h1).symm
theorem bs_len (z : Int) (h : bigZ z = false) : (⟨(txtZ z).toArray⟩ : ByteArray).size ≤ 1001 := by
  rw [← data_len]
  have := bigZ_false h
  show (txtZ z).length ≤ _
  unfold txtZ
  split <;> simp [txtN_len] <;> omega
theorem bs_pos (z : Int) : 0 < (⟨(txtZ z).toArray⟩ : ByteArray).size := by
  rw [← data_len]
  show 0 < (txtZ z).length
  unfold txtZ
  split
  · simp
  · exact List.length_pos_iff.2 (txtN_ne _)
theorem bs_zero (z : Int) : ((⟨(txtZ z).toArray⟩ : ByteArray).toList == [48]) = decide (z = 0) := by
  rw [toList_data, Bool.eq_iff_iff, beq_iff_eq, decide_eq_true_eq]
  constructor
  · intro h
    have : txtZ z = txtZ 0 := h
    exact txtZ_inj this
  · intro h; rw [h]; rfl
theorem bs_minus (z : Int) : ((((⟨(txtZ z).toArray⟩ : ByteArray)[0]'(bs_pos z)).toNat : Int) == 45) = decide (z < 0) := by
  have hh := txtZ_head z
  have hd := data_head (⟨(txtZ z).toArray⟩ : ByteArray) (bs_pos z)
  have hd2 : (txtZ z).head? = some ((⟨(txtZ z).toArray⟩ : ByteArray)[0]'(bs_pos z)) := hd
  rw [hd2] at hh
  rw [Bool.eq_iff_iff, beq_iff_eq, decide_eq_true_eq, ← hh]
  constructor
  · intro h; rw [u8_eq (n := 45) h (by omega)]; rfl
  · intro h; injection h with h; rw [h]; rfl
theorem WritePost.ste {W : World} {z : Int} {e : Ending} {w' : World} (h : WritePost W z e w') : StE W (if bigZ z = true then ⟨#[]⟩ else ⟨(txtZ z).toArray⟩) (if bigZ z = true then 14 else 0) e w' := by
  rcases h with ⟨⟨h1, h2⟩ | ⟨h1, h2⟩, h3⟩
  · rw [if_pos h1, if_pos h1]; exact ⟨h2, h3⟩
  · rw [if_neg (by rw [h1]; decide), if_neg (by rw [h1]; decide)]; exact ⟨h2, h3⟩
theorem WritePost.of_ste {W : World} {z : Int} {r : ByteArray} {f : Int} {e : Ending} {w' : World} (h : StE W r f e w') (hr : r = if bigZ z = true then ⟨#[]⟩ else ⟨(txtZ z).toArray⟩) (hf : f = if bigZ z = true then 14 else 0) : WritePost W z e w' := by
  by_cases hb : bigZ z = true
  · rw [if_pos hb] at hr hf; subst hr hf; exact ⟨.inl ⟨hb, h.1⟩, h.2⟩
  · rw [if_neg hb] at hr hf; subst hr hf; exact ⟨.inr ⟨by simpa using hb, h.1⟩, h.2⟩
theorem bigZ_neg (z : Int) : bigZ (-z) = bigZ z := by unfold bigZ; rw [Int.natAbs_neg]


set_option maxHeartbeats 1000000 in
theorem round_ok (s : ByteArray) (n d : Int) (k : Nat) (w : World) (hE : AwayEnv w) (hk : k < 5) (hs : s.size ≤ 100000) (hl : s.data.toList = ratT n d) (h : RatOK n d) :
    Calls Tryd.prog 22 #[.string s, .int .u8 (k : Int)] w (WritePost w (roundZ k n d)) := by
  have hp := fun W => parts_ok s n d W hs hl h
  obtain ⟨h1, h2, h3, h4⟩ := h
  have sn := bs_len n h3
  have sd := bs_len d h4
  by_cases hk4 : k = 4
  · subst hk4
    have hD := fun W => dmod_ok ⟨(txtZ n).toArray⟩ ⟨(txtZ d).toArray⟩ n d W (by omega) (by omega) rfl rfl h3 h4 (by omega)
    have bq : bigZ (n / d) = false := bigZ_small (Int.natAbs_ediv_le_natAbs n d) h3
    refine (round_floor s _ _ _ _ w (Lib.hid hp) (Lib.hid hD)).mono fun e w' hh => ?_
    have e1 : roundZ 4 n d = n / d := rfl
    rw [e1]
    exact WritePost.of_ste hh (by rw [if_neg (by rw [bq]; decide)]) (by rw [if_neg (by rw [bq]; decide)])
  · obtain ⟨N, hN⟩ : ∃ N, N = n.natAbs := ⟨_, rfl⟩
    obtain ⟨D, hDd⟩ : ∃ D : Nat, d = (D : Int) := ⟨d.natAbs, by omega⟩
    obtain ⟨Q, hQ⟩ : ∃ Q, Q = N / D := ⟨_, rfl⟩
    obtain ⟨R, hR⟩ : ∃ R, R = N % D := ⟨_, rfl⟩
    have hD0 : 0 < D := by omega
    have hRD : R < D := by rw [hR]; exact Nat.mod_lt _ hD0
    have bN : bigZ (N : Int) = false := by rw [hN, bigZ_abs]; exact h3
    have bQ : bigZ (Q : Int) = false := bigZ_le (by rw [hQ]; exact Nat.div_le_self _ _) bN
    have bD : bigZ (D : Int) = false := by rw [← hDd]; exact h4
    have bR : bigZ (R : Int) = false := bigZ_le (by omega) bD
    have bL : bigZ ((D : Int) + -(R : Int)) = false := bigZ_small (x := (D : Int)) (by omega) bD
    have hD := fun W => dmod_ok ⟨(txtZ (n.natAbs : Int)).toArray⟩ ⟨(txtZ d).toArray⟩ (n.natAbs : Int) d W (by rw [← hN]; have := bs_len _ bN; omega) (by omega) rfl rfl (by rw [← hN]; exact bN) h4 (by omega)
    have eq1 : ((n.natAbs : Int)) / d = (Q : Int) := by rw [← hN, hDd, hQ]; rfl
    have eq2 : ((n.natAbs : Int)) % d = (R : Int) := by rw [← hN, hDd, hR]; rfl
    rw [eq1, eq2] at hD
    have hS : ∀ W, Calls Tryd.prog 54 #[.string ⟨(txtZ d).toArray⟩, .string ⟨(txtZ (R : Int)).toArray⟩] W (StE W ⟨(txtZ ((D : Int) + -(R : Int))).toArray⟩ 0) := fun W => by
      have := sub_ok ⟨(txtZ d).toArray⟩ ⟨(txtZ (R : Int)).toArray⟩ d R W (by omega) (by have := bs_len _ bR; omega) rfl rfl h4 bR
      rw [hDd] at this ⊢
      refine this.mono fun e w' hh => ?_
      have := hh.ste
      rwa [if_neg (by rw [bL]; decide), if_neg (by rw [bL]; decide)] at this
    have hC : ∀ W, Calls Tryd.prog 55 #[.string ⟨(txtZ (R : Int)).toArray⟩, .string ⟨(txtZ ((D : Int) + -(R : Int))).toArray⟩] W (CmE W (cmpZ R ((D : Int) + -(R : Int)))) := fun W =>
      icmp_ok _ _ R ((D : Int) + -(R : Int)) W (by have := bs_len _ bR; omega) (by have := bs_len _ bL; omega) rfl rfl bR bL
    have hAd : ∀ W, Calls Tryd.prog 56 #[.string ⟨(txtZ (Q : Int)).toArray⟩, .string ⟨#[49]⟩] W (StE W (if bigZ ((Q : Int) + 1) = true then ⟨#[]⟩ else ⟨(txtZ ((Q : Int) + 1)).toArray⟩) (if bigZ ((Q : Int) + 1) = true then 14 else 0)) := fun W =>
      (add_ok ⟨(txtZ (Q : Int)).toArray⟩ ⟨#[49]⟩ Q 1 W (by have := bs_len _ bQ; omega) (by decide) rfl (txtZ_1).symm bQ bigZ_one).mono fun e w' hh => hh.ste
    have hm : Hid (if decide (n < 0) = true then (⟨(txtZ n).toArray⟩ : ByteArray).extract 1 (⟨(txtZ n).toArray⟩ : ByteArray).size = ⟨(txtZ (n.natAbs : Int)).toArray⟩ else (⟨(txtZ n).toArray⟩ : ByteArray) = ⟨(txtZ (n.natAbs : Int)).toArray⟩) := by
      show if decide (n < 0) = true then _ else _
      by_cases hn : n < 0
      · rw [if_pos (by simpa using hn)]
        apply Go.WideShapes.bytes_inj
        rw [tail_data]
        show (txtZ n).tail = txtZ (n.natAbs : Int)
        rw [txtZ_pos]; unfold txtZ; rw [if_pos hn]; rfl
      · rw [if_neg (by simpa using hn), show (n.natAbs : Int) = n by omega]
    obtain ⟨A, hA10⟩ := txtN_last Q
    have hlast := last_at (b := ⟨(txtZ (Q : Int)).toArray⟩) (A := A) (c := dgB (Q % 10)) (by show txtZ (Q : Int) = _; rw [txtZ_pos, hA10]) (bs_pos _)
    have hdg : (dgB (Q % 10)).toNat = 48 + Q % 10 := dgB_toNat (by omega)
    have hl1 : 48 ≤ ((⟨(txtZ (Q : Int)).toArray⟩ : ByteArray)[(⟨(txtZ (Q : Int)).toArray⟩ : ByteArray).size - 1]'(by have := bs_pos (Q : Int); omega)).toNat := by rw [hlast, hdg]; omega
    have hl2 : ((⟨(txtZ (Q : Int)).toArray⟩ : ByteArray)[(⟨(txtZ (Q : Int)).toArray⟩ : ByteArray).size - 1]'(by have := bs_pos (Q : Int); omega)).toNat ≤ 57 := by rw [hlast, hdg]; omega
    have hodd : Hid ((((((⟨(txtZ (Q : Int)).toArray⟩ : ByteArray)[(⟨(txtZ (Q : Int)).toArray⟩ : ByteArray).size - 1]'(by have := bs_pos (Q : Int); omega)).toNat : Int) - 48) % 2 == 1) = decide (Q % 2 = 1)) := by
      show (_ == _) = _
      rw [hlast, hdg, Bool.eq_iff_iff, beq_iff_eq, decide_eq_true_eq]
      omega
    obtain ⟨up, hupd⟩ : ∃ up, up = rndB k Q R D := ⟨_, rfl⟩
    have hup : ∀ K, K = k → Hid (up = (!decide ((R : Int) = 0) && rndUp K (decide (Q % 2 = 1)) (cmpZ R ((D : Int) + -(R : Int))))) := fun K hK => by
      show up = _
      rw [hupd, hK]
      unfold rndB
      congr 1
      by_cases h : R = 0 <;> simp [h]
    obtain ⟨Z, hZ⟩ : ∃ Z : Nat, Z = rndQ k N D := ⟨_, rfl⟩
    have hZv : Z = if up = true then Q + 1 else Q := by rw [hZ, hupd, hQ, hR]; rfl
    obtain ⟨f, hf⟩ : ∃ f : Int, f = if bigZ (Z : Int) = true then 14 else 0 := ⟨_, rfl⟩
    obtain ⟨q2, hq2⟩ : ∃ q2 : ByteArray, q2 = if bigZ (Z : Int) = true then ⟨#[]⟩ else ⟨(txtZ (Z : Int)).toArray⟩ := ⟨_, rfl⟩
    have hA : Hid (if up = true then ∀ W, Calls Tryd.prog 56 #[.string ⟨(txtZ (Q : Int)).toArray⟩, .string ⟨#[49]⟩] W (StE W q2 f) else (⟨(txtZ (Q : Int)).toArray⟩ : ByteArray) = q2 ∧ f = 0) := by
      show if up = true then _ else _
      cases up with
      | true =>
        rw [if_pos rfl] at hZv ⊢
        rw [hq2, hf, hZv]
        exact hAd
      | false =>
        rw [if_neg (by decide)] at hZv ⊢
        rw [hq2, hf, hZv, if_neg (by rw [bQ]; decide), if_neg (by rw [bQ]; decide)]
        exact ⟨rfl, rfl⟩
    obtain ⟨qz, ht5⟩ : ∃ qz, (q2.toList == [48]) = qz := ⟨_, rfl⟩
    obtain ⟨res, hres'⟩ : ∃ res : ByteArray, res = if f ≠ 0 then ⟨#[]⟩ else if (decide (n < 0) && !qz) = true then ⟨#[45]⟩ ++ q2 else q2 := ⟨_, rfl⟩
    have hres := Lib.hid hres'
    have h2s : q2.size ≤ 100000 := by
      rw [hq2]
      by_cases hb : bigZ (Z : Int) = true
      · rw [if_pos hb]; exact Nat.zero_le _
      · rw [if_neg hb]; have := bs_len _ (show bigZ (Z : Int) = false by simpa using hb); omega
    have hgo : Calls Tryd.prog 22 #[.string s, .int .u8 (k : Int)] w (StE w res f) := by
      have hc : k = 0 ∨ k = 1 ∨ k = 2 ∨ k = 3 := by omega
      rcases hc with rfl | rfl | rfl | rfl
      · exact round_0 s ⟨(txtZ n).toArray⟩ ⟨(txtZ (n.natAbs : Int)).toArray⟩ ⟨(txtZ d).toArray⟩ ⟨(txtZ (Q : Int)).toArray⟩ ⟨(txtZ (R : Int)).toArray⟩ ⟨(txtZ ((D : Int) + -(R : Int))).toArray⟩ q2 _ _ _ up _ _ f w hE (Lib.hid hp) (bs_pos n) (bs_minus n) hm (Lib.hid hD) (Lib.hid hS) (Lib.hid hC) (bs_pos _) (by have := bs_len _ bQ; omega) hl1 hl2 hodd (bs_zero _) (hup 0 rfl) hA ht5 res hres h2s
      · exact round_1 s ⟨(txtZ n).toArray⟩ ⟨(txtZ (n.natAbs : Int)).toArray⟩ ⟨(txtZ d).toArray⟩ ⟨(txtZ (Q : Int)).toArray⟩ ⟨(txtZ (R : Int)).toArray⟩ ⟨(txtZ ((D : Int) + -(R : Int))).toArray⟩ q2 _ _ _ up _ _ f w hE (Lib.hid hp) (bs_pos n) (bs_minus n) hm (Lib.hid hD) (Lib.hid hS) (Lib.hid hC) (bs_pos _) (by have := bs_len _ bQ; omega) hl1 hl2 hodd (bs_zero _) (hup 1 rfl) hA ht5 res hres h2s
      · exact round_2 s ⟨(txtZ n).toArray⟩ ⟨(txtZ (n.natAbs : Int)).toArray⟩ ⟨(txtZ d).toArray⟩ ⟨(txtZ (Q : Int)).toArray⟩ ⟨(txtZ (R : Int)).toArray⟩ ⟨(txtZ ((D : Int) + -(R : Int))).toArray⟩ q2 _ _ _ up _ _ f w hE (Lib.hid hp) (bs_pos n) (bs_minus n) hm (Lib.hid hD) (Lib.hid hS) (Lib.hid hC) (bs_pos _) (by have := bs_len _ bQ; omega) hl1 hl2 hodd (bs_zero _) (hup 2 rfl) hA ht5 res hres h2s
      · exact round_3 s ⟨(txtZ n).toArray⟩ ⟨(txtZ (n.natAbs : Int)).toArray⟩ ⟨(txtZ d).toArray⟩ ⟨(txtZ (Q : Int)).toArray⟩ ⟨(txtZ (R : Int)).toArray⟩ ⟨(txtZ ((D : Int) + -(R : Int))).toArray⟩ q2 _ _ _ up _ _ f w hE (Lib.hid hp) (bs_pos n) (bs_minus n) hm (Lib.hid hD) (Lib.hid hS) (Lib.hid hC) (bs_pos _) (by have := bs_len _ bQ; omega) hl1 hl2 hodd (bs_zero _) (hup 3 rfl) hA ht5 res hres h2s
    refine hgo.mono fun e w' hh => ?_
    have hval : roundZ k n d = if n < 0 then -(Z : Int) else (Z : Int) := by
      unfold roundZ
      rw [if_neg hk4, hZ, hN, show d.natAbs = D by omega]
    have hbz : bigZ (roundZ k n d) = bigZ (Z : Int) := by
      rw [hval]; split
      · exact bigZ_neg _
      · rfl
    refine WritePost.of_ste hh ?_ (by rw [hf, hbz])
    rw [hbz, hres']
    by_cases hb : bigZ (Z : Int) = true
    · rw [if_pos hb, if_pos (by rw [hf, if_pos hb]; decide)]
    · have hf0 : f = 0 := by rw [hf, if_neg hb]
      rw [if_neg hb, if_neg (by rw [hf0]; decide)]
      have hq2' : q2 = ⟨(txtZ (Z : Int)).toArray⟩ := by rw [hq2, if_neg hb]
      have hqz : qz = decide ((Z : Int) = 0) := by rw [← ht5, hq2', bs_zero]
      rw [hval, hqz, hq2']
      by_cases hn : n < 0
      · rw [if_pos hn]
        by_cases hz : Z = 0
        · subst hz; simp
        · rw [if_pos (by simp [hn]; omega)]
          apply Go.WideShapes.bytes_inj
          rw [bytes_app]
          show _ = txtZ (-(Z : Int))
          rw [txtZ_neg (by omega)]
          show [45] ++ txtZ (Z : Int) = _
          rw [txtZ_pos]; rfl
      · rw [if_neg hn, if_neg (by simp [hn])]


end Go.Proofs.YtnikhbdjlipcbaaDoor
