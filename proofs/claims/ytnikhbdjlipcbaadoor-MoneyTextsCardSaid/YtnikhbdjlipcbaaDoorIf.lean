/-
  The reference's Text. No condition.
-/
import Derived.Test.YtnikhbdjlipcbaaDoorIe
import Derived.Laws.IdiomStrings
namespace Go.Proofs.YtnikhbdjlipcbaaDoor
open Go.RowKit

theorem txtZ_neg {n : Nat} (h : 0 < n) : txtZ (-(n : Int)) = 45 :: txtN n := by
  unfold txtZ; rw [if_pos (by omega), Int.natAbs_neg, Int.natAbs_natCast]
theorem txtZ_pos (n : Nat) : txtZ (n : Int) = txtN n := by
  unfold txtZ; rw [if_neg (by omega), Int.natAbs_natCast]
theorem top_dig (l : List Nat) (k : Nat) (hk : k + 1 ≤ l.length) (d : ∀ x ∈ l, x < 10) (h : dval (l.take (k + 1)) = dval l) (h0 : l.getD k 0 ≠ 0) : decN (dval l) = l.take (k + 1) ∧ 0 < dval l := by
  have hD : Dig (l.take (k + 1)) := by
    refine ⟨fun x hx => d x (List.mem_of_mem_take hx), ?_⟩
    rw [List.take_add_one, List.getElem?_eq_getElem (by omega)]
    simp only [Option.toList_some, List.getLast?_concat]
    rw [List.getD_eq_getElem?_getD, List.getElem?_eq_getElem (by omega)] at h0
    simpa using h0
  have e := decL_dval _ hD
  rw [h] at e
  have hne : dval l ≠ 0 := by
    intro hz
    rw [hz, decL_zero] at e
    have := congrArg List.length e
    rw [List.length_take] at this
    simp at this; omega
  exact ⟨by unfold decN; rw [if_neg hne, e], by omega⟩
/-- The bytes that Text lays: the sign, and the digits from the top down to place i. -/
def txtP (neg : Bool) (l : List Nat) (i : Nat) : List UInt8 := (if neg then [45] else []) ++ (l.drop i).reverse.map dgB
theorem txtP_start (neg : Bool) (l : List Nat) : txtP neg l l.length = if neg then [45] else [] := by simp [txtP]
theorem txtP_step (neg : Bool) (l : List Nat) (i : Nat) (h : i < l.length) : txtP neg l (i + 1) ++ [dgB (l.getD i 0)] = txtP neg l i := by
  unfold txtP
  have : l.drop i = l.getD i 0 :: l.drop (i + 1) := by
    rw [List.drop_eq_getElem_cons h, List.getD_eq_getElem?_getD, List.getElem?_eq_getElem h]; rfl
  rw [this]; simp
theorem txtP_end (neg : Bool) (V : Nat) (h : 0 < V) : txtP neg (decN V) 0 = txtZ (if neg then -(V : Int) else (V : Int)) := by
  unfold txtP
  cases neg
  · simp [txtZ_pos, txtN]
  · simp [txtZ_neg h, txtN]
theorem txtP_len (neg : Bool) (l : List Nat) (i : Nat) (h : i ≤ l.length) : (txtP neg l i).length ≤ l.length + 1 - i := by
  unfold txtP; cases neg <;> simp <;> omega

theorem infoU8 : (Tryd.prog.info? 5).map (fun i => (i.zero, i.size, i.bytes)) = some (some (.int .u8 0), 1, 1) := by kernel_rfl
/-- Bytes as cells. -/
def bytesV (l : List UInt8) : List Value := l.map fun b : UInt8 => Value.int .u8 (b.toNat : Int)
theorem bytesV_length (l : List UInt8) : (bytesV l).length = l.length := by simp [bytesV]
theorem bytesV_snoc (l : List UInt8) (b : UInt8) : bytesV l ++ [.int .u8 (b.toNat : Int)] = bytesV (l ++ [b]) := by simp [bytesV]
theorem bytesV_get (l : List UInt8) (i : Nat) (h : i < l.length) : (bytesV l)[i]? = some (.int .u8 (l[i].toNat : Int)) := by
  simp [bytesV, List.getElem?_eq_getElem h]
/-- string(b) of bytes that the call owns. -/
theorem conv_own {w : World} {B : Nat} {v : Value} {n : Nat} {l : List UInt8} (h : w.ownsRow B 5 1 v n (bytesV l)) (dst : TypeId) (hd : Tryd.prog.underlying dst = some .string) :
    (convert 66 dst v).run Tryd.prog w = .ok (.string ⟨l.toArray⟩) w := by
  have hn : l.length = n := by have := h.1; rw [bytesV_length] at this; omega
  rcases rowAt_of_owns h with ⟨rfl, hz, _⟩ | ⟨g, c, rfl, _, hc, _, _, hr⟩
  · rw [run_convert_bytes_nil w 66 5 Tryd.underlying66 Tryd.underlying5 0 0 dst hd]
    rw [List.eq_nil_of_length_eq_zero (hn.trans hz)]; rfl
  · have := run_convert_bytes_back (P := Tryd.prog) w 66 dst 5 ⟨g, 0, none⟩ c l Tryd.underlying66 Tryd.underlying5 hd (fun j hj => by
      rw [add_plain, Nat.zero_add, hr.cell (by rw [bytesV_length]; exact hj), bytesV_get l j hj])
    rw [hn] at this
    exact this

/-- A text is handed back. -/
def StrPost (w : World) (l : List UInt8) (e : Ending) (w' : World) : Prop := e = .returned (.string ⟨l.toArray⟩) ∧ Below w.heap.size w w'
def TrimT (la : List Nat) (n : Nat) (v : Value) : Prop := ∃ k : Nat, k ≤ n ∧ v = .int .i64 (k : Int) ∧ dval (la.take k) = dval la
def TxtR (w : World) (neg : Bool) (D : List Nat) (o iv : Value) (wr : World) : Prop :=
  ∃ i : Nat, i ≤ D.length ∧ iv = .int .i64 ((i : Int) - 1) ∧ wr.ownsRow w.heap.size 5 1 o (txtP neg D i).length (bytesV (txtP neg D i)) ∧ Below w.heap.size w wr

set_option maxHeartbeats 4000000 in
set_option maxRecDepth 100000 in
theorem text_any (a : Option Addr) (n c : Nat) (la : List Nat) (neg : Bool) (w : World) (hla : la.length = n) (hn : n ≤ 900000) (da : ∀ x ∈ la, x < 10) (ha : Nums .i64 w a la) :
    Calls Tryd.prog 81 #[.slice a n c, .bool neg] w (StrPost w (txtZ (if neg then -(dval la : Int) else (dval la : Int)))) := by
  obtain ⟨i0, hi, hz0, hz1, hz2⟩ := info_parts infoU8
  have HLA := Lib.hid hla
  have HA := Lib.hid ha
  have DA := Lib.hid da
  clear hla ha da
  obtain ⟨Z, hZ⟩ : ∃ Z, Z = txtZ (if neg then -(dval la : Int) else (dval la : Int)) := ⟨_, rfl⟩
  rw [← hZ]
  have HZ := Lib.hid hZ
  clear hZ
  go_enter Tryd.func81, Tryd.ntmps81
  go_wp2_with fail
  go_loop [5] (TrimT la n) (fun v => (intOf v).toNat)
  case atStart => exact ⟨n, Nat.le_refl _, rfl, by rw [List.take_of_length_le (by have := HLA.out; omega)]⟩
  case round =>
    obtain ⟨k, hk, rfl, hv⟩ := hrel
    have HV := Lib.hid hv
    clear hv
    by_cases hk0 : 1 ≤ k
    · obtain ⟨j, rfl⟩ : ∃ j, k = j + 1 := ⟨k - 1, by omega⟩
      obtain ⟨g, o, rfl, hg, hc⟩ := HA.out j (by have := HLA.out; omega)
      obtain ⟨y, hy⟩ : ∃ y, y = la.getD j 0 := ⟨_, rfl⟩
      rw [← hy] at hc
      rw [show ((j + 1 : Nat) : Int) = (j : Int) + 1 by omega]
      by_cases hy0 : y = 0
      · have hn := dtrim_step la j HV.out (by rw [← hy]; exact hy0)
        have t1 : ((y : Int) == 0) = true := by rw [beq_iff_eq]; omega
        have HN := Lib.hid hn
        clear hn hy hy0
        go_wp2_with fail
        go_round
        case rel => exact ⟨j, by omega, rfl, HN.out⟩
        case measure => simp [intOf] <;> omega
      · have htop := top_dig la j (by have := HLA.out; omega) DA.out HV.out (by rw [← hy]; exact hy0)
        obtain ⟨V, hV⟩ : ∃ V, V = dval la := ⟨_, rfl⟩
        rw [← hV] at htop
        have t1 : ((y : Int) == 0) = false := by rw [beq_eq_false_iff_ne]; omega
        obtain ⟨D, hD⟩ : ∃ D, D = decN V := ⟨_, rfl⟩
        have hDl : D.length = j + 1 := by rw [hD, htop.1, List.length_take]; have := HLA.out; omega
        have hDc : ∀ e, e < j + 1 → w.cell? ⟨g, o + e, none⟩ = some (.int .i64 ((D.getD e 0 : Nat) : Int)) := fun e he => by
          obtain ⟨g', o', ee, _, hce⟩ := HA.out e (by have := HLA.out; omega)
          injection ee with ee; injection ee with e1 e2
          subst e1 e2
          rw [hce, hD, htop.1, List.getD_eq_getElem?_getD, List.getD_eq_getElem?_getD, List.getElem?_take_of_lt he]
        have hD10 : ∀ x ∈ D, x < 10 := by rw [hD]; exact decN_lt V
        have HVP := Lib.hid htop.2
        have HDD := Lib.hid hD
        have HDL := Lib.hid hDl
        have HDC := Lib.hid hDc
        have HD10 := Lib.hid hD10
        have hfin := txtP_end neg V htop.2
        rw [← hD, hV, ← HZ.out] at hfin
        have HFIN := Lib.hid hfin
        have t2 : ((((j : Nat) : Int) + 1) == 0) = false := by rw [beq_eq_false_iff_ne]; omega
        have hs0 : TxtR w false D (.slice none 0 0) (.int .i64 (j : Int)) w := ⟨D.length, Nat.le_refl _, by rw [hDl]; congr 1; omega, by rw [txtP_start]; exact World.ownsRow_nil _ _ _ _, Below.refl _ _⟩
        have HS0 := Lib.hid hs0
        clear htop hV hD hDl hDc hD10 hfin hs0 hy0 hy
        go_upto_if 24 with (fail)
        go_cut [6] (fun v wx => TxtR w neg D v (.int .i64 (j : Int)) wx)
        case first => as_aux_lemma =>
          cases neg with
          | false =>
            go_wp2_with fail
            go_meet
            exact HS0.out
          | true =>
            go_wp2_with (at_builtin; refine wpList_append1 _ rfl (.tmp 25) (.tmp 26) 66 rfl w.heap.size 5 i0 (.int .u8 0) 1 Tryd.underlying66 hi hz0 hz1 hz2 rfl _ _ _ rfl (World.ownsRow_nil _ _ _ _) ⟨w.heap.size, 0, none⟩ 1 (.int .u8 45) rfl ?c1 rfl ?c3 ?c4 ?c5 ?_)
            case c3 => unfold maxLen; omega
            intro v1 w1 ho1 hg1 hne1 hpl1
            have n1 : Hid (Below w.heap.size w w1) := ((Below.refl _ _).alloc (Nat.le_refl _) _).grown hg1 (by simp) (fun k hk => by simp [Value.ownBlock] at hk)
            have HO1 := Lib.hid ho1
            clear ho1 hg1 hne1 hpl1
            go_wp2_with fail
            go_meet
            exact ⟨D.length, Nat.le_refl _, by rw [HDL.out]; congr 1; omega, by rw [txtP_start]; exact HO1.out, n1.out⟩
        case rest => as_aux_lemma =>
          have HST := Lib.hid hcut
          clear hcut HS0
          go_wp2_with fail
          go_loopw [6, 7] (TxtR w neg D) (fun _ i _ => (intOf i + 1).toNat)
          case atStart => exact HST.out
          case round =>
            obtain ⟨i, hin, rfl, ho, hb⟩ := hrel
            have HO := Lib.hid ho
            have HB := Lib.hid hb
            clear ho hb
            by_cases hi0 : 1 ≤ i
            · obtain ⟨e, rfl⟩ : ∃ e, i = e + 1 := ⟨i - 1, by omega⟩
              rw [show (((e + 1 : Nat) : Int) - 1) = (e : Int) by omega]
              have hel : e < j + 1 := by have := HDL.out; omega
              have hce := (HB.out.cell (p := ⟨g, o + e, none⟩) hg).trans (HDC.out e hel)
              obtain ⟨x, hx⟩ : ∃ x, x = D.getD e 0 := ⟨_, rfl⟩
              rw [← hx] at hce
              have hx10 : x < 10 := by rw [hx]; exact digD_lt D e HD10.out
              have hst := txtP_step neg D e (by omega)
              rw [← hx] at hst
              have HSTP := Lib.hid hst
              have hdg : ((dgB x).toNat : Int) = 48 + (x : Int) := by rw [dgB_toNat hx10]; omega
              have HDG := Lib.hid hdg
              have hlen := txtP_len neg D (e + 1) hin
              clear hx hst hdg
              obtain ⟨Q, hQ⟩ : ∃ Q, Q = txtP neg D (e + 1) := ⟨_, rfl⟩
              have HO' := HO.out
              rw [← hQ] at HO' hlen HSTP
              have HO2 := Lib.hid HO'
              clear HO' HO hQ
              have hq2 : Q.length ≤ 900001 := by have := HDL.out; omega
              go_wp2_with (at_builtin; refine wpList_append1 _ rfl (.tmp 34) (.tmp 41) 66 rfl w.heap.size 5 i0 (.int .u8 0) 1 Tryd.underlying66 hi hz0 hz1 hz2 rfl _ _ _ rfl (HO2.out.alloc _) ⟨wr.heap.size, 0, none⟩ 1 (.int .u8 ((dgB x).toNat : Int)) rfl ?d1 rfl ?d3 ?d4 ?d5 ?_)
              case d1 => rw [HDG.out]; simp
              case d3 => unfold maxLen; omega
              case d4 => omega
              case d5 => have := HB.out.size; simp; omega
              intro v1 w1 ho1 hg1 hne1 hpl1
              have n1 : Below w.heap.size w w1 := (HB.out.alloc HB.out.size _).grown hg1 (by have := HB.out.size; simp; omega) (fun k hk => (HO2.out.lt k hk).1)
              rw [bytesV_snoc, HSTP.out] at ho1
              have hl2 : Q.length + 1 = (txtP neg D e).length := by rw [← HSTP.out]; simp
              rw [hl2] at ho1
              have HO1 := Lib.hid ho1
              have N1 := Lib.hid n1
              clear ho1 n1 hg1 hne1 hpl1 hl2
              go_wp2_with fail
              go_roundw
              case rel => exact ⟨e, by omega, rfl, HO1.out, N1.out⟩
              case measure => simp [intOf] <;> omega
            · obtain rfl : i = 0 := by omega
              have hcv := conv_own HO.out 52 Tryd.underlying52
              rw [HFIN.out] at hcv
              go_wp2_with fail
              go_ret
              exact ⟨rfl, HB.out⟩
    · obtain rfl : k = 0 := by omega
      have hz : dval la = 0 := by have := HV.out; simpa [dval] using this.symm
      have e0 : txtZ (if neg then -(dval la : Int) else (dval la : Int)) = [48] := by rw [hz]; cases neg <;> rfl
      have HE0 : Hid (Z = [48]) := by show _ = _; rw [HZ.out, e0]
      clear hz e0
      go_wp2_with fail
      go_ret
      exact ⟨by rw [HE0.out]; rfl, Below.refl _ _⟩

end Go.Proofs.YtnikhbdjlipcbaaDoor
