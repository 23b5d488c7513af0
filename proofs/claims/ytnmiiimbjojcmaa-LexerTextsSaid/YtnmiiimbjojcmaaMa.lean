/-
  Magnitudes of the program: trim, compare. No condition.
-/
import Derived.Test.YtnmiiimbjojcmaaId
namespace Go.Proofs.Ytnmiiimbjojcmaa
open Go.RowKit

theorem infoU32 : (Try.prog.info? 101).map (fun i => (i.zero, i.size, i.bytes)) = some (some (.int .u32 0), 1, 4) := by kernel_rfl
theorem ownsRow_take {w : World} {B e : Nat} {a : Option Addr} {n c k : Nat} {xs : List Value} (h : w.ownsRow B e 1 (.slice a n c) n xs) (hk : k ≤ n) : w.ownsRow B e 1 (.slice a k c) k (xs.take k) := by
  obtain ⟨h1, h2⟩ := h
  refine ⟨by rw [List.length_take]; omega, ?_⟩
  rcases h2 with ⟨h, _⟩ | ⟨g, cap, cur, h, hb, hg, hnc, hcm, hcs, htake⟩
  · injection h with e1 e2 e3
    subst e1 e2 e3
    exact .inl ⟨by rw [show k = 0 by omega], by omega⟩
  · injection h with e1 _ e3
    subst e1 e3
    refine .inr ⟨g, c, cur, rfl, hb, hg, by omega, hcm, hcs, ?_⟩
    rw [← htake, List.take_take]
    congr 1; omega
theorem nums_take (k : IntKind) (l : List Nat) (n : Nat) : (nums k l).take n = nums k (l.take n) := by simp [nums, List.map_take]

/-- trim hands back a prefix. -/
def TrimPost (w : World) (a : Option Addr) (n c : Nat) (l : List Nat) (e : Ending) (w' : World) : Prop :=
  (∃ k, k ≤ n ∧ e = .returned (.slice a k c) ∧ Rep (l.take k) (val l)) ∧ w = w'
def TrimM (a : Option Addr) (n c : Nat) (l : List Nat) (v : Value) : Prop := ∃ k : Nat, k ≤ n ∧ v = .slice a k c ∧ val (l.take k) = val l

set_option maxHeartbeats 1000000 in
set_option maxRecDepth 100000 in
theorem trim_any (a : Option Addr) (n c : Nat) (l : List Nat) (w : World) (hl : l.length = n) (hn : n ≤ 1000000) (hc : n ≤ c) (d : ∀ x ∈ l, x < Bs) (ha : Nums .u32 w a l) :
    Calls Try.prog 62 #[.slice a n c] w (TrimPost w a n c l) := by
  have HL := Lib.hid hl
  have HA := Lib.hid ha
  have HD := Lib.hid d
  clear hl ha d
  go_enter Try.func62, Try.ntmps62
  go_wp2_with fail
  go_loop [0] (TrimM a n c l) (fun v => match v with | .slice _ k _ => k | _ => 0)
  case atStart => exact ⟨n, Nat.le_refl _, rfl, by rw [List.take_of_length_le (by have := HL.out; omega)]⟩
  case round =>
    obtain ⟨k, hk, rfl, hv⟩ := hrel
    have HV := Lib.hid hv
    clear hv
    by_cases hk0 : 1 ≤ k
    · obtain ⟨j, rfl⟩ : ∃ j, k = j + 1 := ⟨k - 1, by omega⟩
      obtain ⟨g, o, rfl, hg, hcl⟩ := HA.out j (by have := HL.out; omega)
      obtain ⟨y, hy⟩ : ∃ y, y = l.getD j 0 := ⟨_, rfl⟩
      rw [← hy] at hcl
      by_cases hy0 : y = 0
      · have hn2 := trim_step l j (by rw [← hy]; exact hy0)
        have t1 : ((y : Int) == 0) = true := by rw [beq_iff_eq]; omega
        have HN := Lib.hid (hn2.symm.trans HV.out)
        clear hn2 hy hy0
        go_wp2_with fail
        go_round
        case rel => exact ⟨j, by omega, rfl, HN.out⟩
        case measure => simp
      · have hr := trim_end l (j + 1) HD.out (by have := HL.out; omega) (.inr (by rw [Nat.add_sub_cancel, ← hy]; exact hy0)) HV.out
        have t1 : ((y : Int) == 0) = false := by rw [beq_eq_false_iff_ne]; omega
        have HR := Lib.hid hr
        clear hr hy hy0
        go_wp2_with fail
        go_ret
        exact ⟨⟨j + 1, hk, rfl, HR.out⟩, rfl⟩
    · obtain rfl : k = 0 := by omega
      have hr := Lib.hid (trim_end l 0 HD.out (Nat.zero_le _) (.inl rfl) HV.out)
      go_wp2_with fail
      go_ret
      exact ⟨⟨0, Nat.zero_le _, rfl, hr.out⟩, rfl⟩

theorem drop_of_getD {a b : List Nat} {i : Nat} (hl : a.length = b.length) (h : ∀ j, i ≤ j → a.getD j 0 = b.getD j 0) : a.drop i = b.drop i := by
  apply List.ext_getElem
  · simp [hl]
  · intro j h1 h2
    rw [List.length_drop] at h1 h2
    have := h (i + j) (by omega)
    rw [List.getD_eq_getElem?_getD, List.getD_eq_getElem?_getD, List.getElem?_eq_getElem (by omega), List.getElem?_eq_getElem (by omega)] at this
    simpa using this

def CmR (la lb : List Nat) (n : Nat) (i : Value) : Prop := ∃ k : Int, -1 ≤ k ∧ k < n ∧ i = .int .i64 k ∧ ∀ j : Nat, k < j → la.getD j 0 = lb.getD j 0

set_option maxHeartbeats 1000000 in
set_option maxRecDepth 100000 in
theorem mcmp_len (a b : Option Addr) (n m c d : Nat) (w : World) (hn : n ≤ 1000000) (hm : m ≤ 1000000) (h : n ≠ m) :
    Calls Try.prog 60 #[.slice a n c, .slice b m d] w fun e w' => e = .returned (.int .i64 (cmpN n m)) ∧ ∃ q, w' = w.drewN q := by
  rcases Nat.lt_or_ge n m with h1 | h1
  · have t1 : ((n : Int) != (m : Int)) = true := by rw [bne_iff_ne]; omega
    have HC := Lib.hid (cmpN_lt h1)
    have HN := Lib.hid h
    clear h
    go_enter Try.func60, Try.ntmps60
    go_wp2_with fail
    all_goals
      go_ret
      exact ⟨ret_int (by rw [HC.out]), 0, rfl⟩
  · have h2 : m < n := by omega
    have t1 : ((n : Int) != (m : Int)) = true := by rw [bne_iff_ne]; omega
    have HC := Lib.hid (cmpN_gt h2)
    have HN := Lib.hid h
    clear h
    go_enter Try.func60, Try.ntmps60
    go_wp2_with fail
    all_goals
      go_ret
      exact ⟨ret_int (by rw [HC.out]), 0, rfl⟩

set_option maxHeartbeats 1000000 in
set_option maxRecDepth 100000 in
theorem mcmp_same (a b : Option Addr) (n c d : Nat) (la lb : List Nat) (w : World) (hla : la.length = n) (hlb : lb.length = n) (hn : n ≤ 1000000)
    (da : ∀ x ∈ la, x < Bs) (db : ∀ x ∈ lb, x < Bs) (ha : Nums .u32 w a la) (hb : Nums .u32 w b lb) :
    Calls Try.prog 60 #[.slice a n c, .slice b n d] w fun e w' => e = .returned (.int .i64 (cmpN (val la) (val lb))) ∧ ∃ q, w' = w.drewN q := by
  have HLA := Lib.hid hla
  have HLB := Lib.hid hlb
  have HA := Lib.hid ha
  have HB := Lib.hid hb
  have DA := Lib.hid da
  have DB := Lib.hid db
  clear hla hlb ha hb da db
  go_enter Try.func60, Try.ntmps60
  go_wp2_with fail
  go_loopw [5] (fun i wr => CmR la lb n i ∧ ∃ q, wr = w.drewN q) (fun i _ => (intOf i + 1).toNat)
  case atStart => exact ⟨⟨(n : Int) - 1, by omega, by omega, rfl, fun j hj => by rw [getD_out (by have := HLA.out; omega), getD_out (by have := HLB.out; omega)]⟩, 0, rfl⟩
  case round =>
    obtain ⟨⟨k, hk1, hk2, rfl, he⟩, q, rfl⟩ := hrel
    have HE := Lib.hid he
    clear he
    by_cases hk : 0 ≤ k
    · obtain ⟨j, rfl⟩ := Int.eq_ofNat_of_zero_le hk
      obtain ⟨ga, oa, rfl, hga, hca⟩ := HA.out j (by have := HLA.out; omega)
      obtain ⟨gb, ob, rfl, hgb, hcb⟩ := HB.out j (by have := HLB.out; omega)
      obtain ⟨x, hx⟩ : ∃ x, x = la.getD j 0 := ⟨_, rfl⟩
      obtain ⟨y, hy⟩ : ∃ y, y = lb.getD j 0 := ⟨_, rfl⟩
      rw [← hx] at hca
      rw [← hy] at hcb
      have HX := Lib.hid hx
      have HY := Lib.hid hy
      have hlen : la.length = lb.length := by rw [HLA.out, HLB.out]
      have hr : (x = y → ∀ i : Nat, (j : Int) - 1 < i → la.getD i 0 = lb.getD i 0) ∧ (y < x → cmpN (val la) (val lb) = 1) ∧ (x < y → cmpN (val la) (val lb) = -1) := by
        refine ⟨fun e => fun i hi => ?_, fun h => cmpN_gt (cmp_top lb la j hlen.symm (by have := HLB.out; omega) DB.out (drop_of_getD hlen.symm fun i hi => (HE.out i (by omega)).symm) (by rw [← HX.out, ← HY.out]; exact h)), fun h => cmpN_lt (cmp_top la lb j hlen (by have := HLA.out; omega) DA.out (drop_of_getD hlen fun i hi => HE.out i (by omega)) (by rw [← HX.out, ← HY.out]; exact h))⟩
        by_cases hij : i = j
        · rw [hij, ← HX.out, ← HY.out, e]
        · exact HE.out i (by omega)
      have HR := Lib.hid hr
      clear hr hx hy hlen
      rcases Nat.lt_trichotomy x y with h | h | h
      · have t1 : ((x : Int) != (y : Int)) = true := by rw [bne_iff_ne]; omega
        have t2 : decide ((x : Int) < (y : Int)) = true := by simp; omega
        have HQ := Lib.hid (HR.out.2.2 h)
        go_wp2_with fail
        go_quiet (fail)
        go_wp2_with fail
        go_quiet (fail)
        go_wp2_with fail
        go_ret
        exact ⟨ret_int HQ.out.symm, _, by rw [World.drewN_drewN, World.drewN_drewN]⟩
      · have HQ := Lib.hid (HR.out.1 h)
        have t1 : ((x : Int) != (y : Int)) = false := by rw [h]; simp
        have HXY := Lib.hid h
        clear h
        go_wp2_with fail
        go_quiet (fail)
        go_wp2_with fail
        go_roundw
        case rel => exact ⟨⟨(j : Int) - 1, by omega, by omega, rfl, HQ.out⟩, _, rfl⟩
        case measure => simp [intOf] <;> omega
      · have t1 : ((x : Int) != (y : Int)) = true := by rw [bne_iff_ne]; omega
        have t2 : decide ((x : Int) < (y : Int)) = false := by simp; omega
        have HQ := Lib.hid (HR.out.2.1 h)
        go_wp2_with fail
        go_quiet (fail)
        go_wp2_with fail
        go_quiet (fail)
        go_wp2_with fail
        go_ret
        exact ⟨ret_int HQ.out.symm, _, by rw [World.drewN_drewN, World.drewN_drewN]⟩
    · have hv : val la = val lb := by
        have : la = lb := by
          have := drop_of_getD (a := la) (b := lb) (i := 0) (by rw [HLA.out, HLB.out]) (fun j _ => HE.out j (by omega))
          simpa using this
        rw [this]
      have HQ := Lib.hid (cmpN_eq hv)
      clear hv
      go_wp2_with fail
      go_ret
      exact ⟨ret_int HQ.out.symm, _, rfl⟩

/-- compare, at canonical magnitudes. -/
theorem mcmp_any (a b : Option Addr) (n m c d A B : Nat) (la lb : List Nat) (w : World) (hla : la.length = n) (hlb : lb.length = m) (hn : n ≤ 1000000) (hm : m ≤ 1000000)
    (ra : Rep la A) (rb : Rep lb B) (ha : Nums .u32 w a la) (hb : Nums .u32 w b lb) :
    Calls Try.prog 60 #[.slice a n c, .slice b m d] w fun e w' => e = .returned (.int .i64 (cmpN A B)) ∧ ∃ q, w' = w.drewN q := by
  by_cases h : n = m
  · subst h
    have := mcmp_same a b n c d la lb w hla hlb hn ra.1 rb.1 ha hb
    rwa [ra.2.2, rb.2.2] at this
  · have := mcmp_len a b n m c d w hn hm h
    have e : cmpN n m = cmpN A B := by
      rcases Nat.lt_or_ge n m with h1 | h1
      · rw [cmpN_lt h1, cmpN_lt (rep_len_lt la lb A B ra rb (by omega))]
      · rw [cmpN_gt (by omega), cmpN_gt (rep_len_lt lb la B A rb ra (by omega))]
    rwa [e] at this

end Go.Proofs.Ytnmiiimbjojcmaa
