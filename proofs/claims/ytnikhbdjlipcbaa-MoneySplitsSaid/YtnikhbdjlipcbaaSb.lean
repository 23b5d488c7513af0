/-
  slices.insertionSortCmpFunc at ints, by a key.
-/
import Derived.Test.YtnikhbdjlipcbaaSa
namespace Go.Proofs.Ytnikhbdjlipcbaa
open Go.RowKit

/-- The comparison of two values that are valid: it only reads, in every world in which block g alone has turned. -/
def CmpOK (key : Int → Int) (N : Int) (g : Nat) (caps : Array Value) (w0 : World) : Prop :=
  ∀ W, w0.grownBy W (some g) → ∀ x y : Int, 0 ≤ x → x < N → 0 ≤ y → y < N →
    Calls Try.prog 11 (#[.int .i64 x, .int .i64 y] ++ caps) W fun e w' => e = .returned (.int .i64 (key x - key y)) ∧ ∃ q, w' = W.drewN q
/-- The keys are small: a difference does not wrap. -/
def KeyOK (key : Int → Int) : Prop := ∀ x, -4000000 ≤ key x ∧ key x ≤ 4000000
def Valid (N : Int) (L : List Int) : Prop := ∀ x ∈ L, 0 ≤ x ∧ x < N

theorem valid_get {N : Int} {L : List Int} (h : Valid N L) {i : Nat} (hi : i < L.length) : 0 ≤ L[i]?.getD 0 ∧ L[i]?.getD 0 < N := by
  rw [List.getElem?_eq_getElem hi]; exact h _ (List.getElem_mem hi)
theorem valid_perm {N : Int} {L M : List Int} (h : Valid N L) (p : M.Perm L) : Valid N M := fun x hx => h x (p.mem_iff.1 hx)

def InsRel (key : Int → Int) (w : World) (g a b : Nat) (A X Z : List Int) (i : Value) (wr : World) : Prop :=
  ∃ (k : Nat) (X' : List Int), i = .int .i64 k ∧ a + 1 ≤ k ∧ (k ≤ b ∨ k = a + 1) ∧ X'.Perm (X.take (k - a)) ∧ Srt key X' ∧ Stb key (A ++ (X' ++ X.drop (k - a)) ++ Z) ∧
    RowAt wr g 3 (ints (A ++ (X' ++ X.drop (k - a)) ++ Z)) ∧ w.grownBy wr (some g)
def InsIn (key : Int → Int) (w : World) (g : Nat) (A T R : List Int) (j : Value) (wr : World) : Prop :=
  ∃ (P Q : List Int) (x : Int), j = .int .i64 (A.length + P.length : Nat) ∧ (P ++ [x] ++ Q).Perm T ∧ Srt key (P ++ Q) ∧ (∀ q ∈ Q, key x < key q) ∧
    Stb key (A ++ P ++ [x] ++ Q ++ R) ∧ RowAt wr g 3 (ints (A ++ P ++ [x] ++ Q ++ R)) ∧ w.grownBy wr (some g)

theorem drop_succ_take {X : List Int} {k : Nat} (hk : k < X.length) : X.drop k = X[k] :: X.drop (k + 1) := List.drop_eq_getElem_cons hk

set_option maxHeartbeats 1000000 in
set_option maxRecDepth 100000 in
theorem insertion_any (key : Int → Int) (N : Int) (g len cap a b : Nat) (A X Z : List Int) (c1 c2 c3 : Value) (w0 w : World) (hA : A.length = a) (hX : a + X.length = b)
    (hlen : (A ++ X ++ Z).length = len) (hbig : len ≤ 4611686018427387903) (hK : KeyOK key) (hC : CmpOK key N g #[c1, c2, c3] w0) (hw : w0.grownBy w (some g)) (hv : Valid N (A ++ X ++ Z))
    (hst : Stb key (A ++ X ++ Z)) (hr : RowAt w g 3 (ints (A ++ X ++ Z))) :
    Calls Try.prog 14 #[.slice (some ⟨g, 0, none⟩) len cap, .int .i64 a, .int .i64 b, .func (.func 11) #[] #[c1, c2, c3]] w fun e w' =>
      ∃ X', e = .returned (.tuple #[]) ∧ X'.Perm X ∧ Srt key X' ∧ Stb key (A ++ X' ++ Z) ∧ RowAt w' g 3 (ints (A ++ X' ++ Z)) ∧ w.grownBy w' (some g) := by
  have HA := Lib.hid hA
  have HX := Lib.hid hX
  have HL := Lib.hid hlen
  have HK := Lib.hid hK
  have HC := Lib.hid hC
  have HW := Lib.hid hw
  have HV := Lib.hid hv
  have hb : b ≤ len := by simp at hlen; omega
  have hab : a ≤ b := by omega
  have hs0 : InsRel key w g a b A X Z (.int .i64 ((a : Int) + 1)) w := by
    refine ⟨a + 1, X.take 1, rfl, Nat.le_refl _, .inr rfl, ?_, ?_, ?_, ?_, only_refl _ _⟩
    · rw [show a + 1 - a = 1 by omega]
    · match X with
      | [] => exact srt_nil
      | x :: _ => exact srt_one x
    · rw [show a + 1 - a = 1 by omega, List.take_append_drop]; exact hst
    · rw [show a + 1 - a = 1 by omega, List.take_append_drop]; exact hr
  clear hA hX hlen hK hC hw hv hst hr
  go_enter Try.func14, Try.ntmps14
  go_wp2_with fail
  go_loopw [8, 9] (fun i _ wr => InsRel key w g a b A X Z i wr) (fun i _ _ => b - (intOf i).toNat)
  case atStart => exact hs0
  case round =>
    obtain ⟨k, X', rfl, hk1, hk2, hp, hs, hst, ro, gr⟩ := hrel
    by_cases hlt : k < b
    · have hXl : k - a < X.length := by have := HX.out; omega
      have hin : InsIn key w g A (X.take (k + 1 - a)) (X.drop (k + 1 - a) ++ Z) (.int .i64 k) wr := by
        have e : A ++ (X' ++ X.drop (k - a)) ++ Z = A ++ X' ++ [X[k - a]] ++ [] ++ (X.drop (k + 1 - a) ++ Z) := by
          rw [drop_succ_take hXl, show k - a + 1 = k + 1 - a by omega]; simp
        have hpl := hp.length_eq
        simp at hpl
        refine ⟨X', [], X[k - a], ?_, ?_, by simpa using hs, fun q hq => by simp at hq, by rw [← e]; exact hst, by rw [← e]; exact ro, gr⟩
        · have := HA.out; congr 1; omega
        · rw [show k + 1 - a = (k - a) + 1 by omega, List.take_succ_eq_append_getElem hXl]
          simp only [List.append_nil]
          exact hp.append_right _
      clear hp hs hst ro gr hs0
      obtain ⟨w1, rfl⟩ : ∃ w1 : World, w1 = wr := ⟨_, rfl⟩
      go_wp2_with fail
      go_loopw [9] (InsIn key w g A (X.take (k + 1 - a)) (X.drop (k + 1 - a) ++ Z)) (fun j _ => (intOf j).toNat)
      case atStart => exact hin
      case round =>
        obtain ⟨P, Q, x, rfl, hp, hs, hq, hst, ro, gr⟩ := hrel
        obtain ⟨j, hj⟩ : ∃ j, j = A.length + P.length := ⟨_, rfl⟩
        rw [← hj]
        have hja : a ≤ j := by have := HA.out; omega
        have hlen : (A ++ P ++ [x] ++ Q ++ (X.drop (k + 1 - a) ++ Z)).length = len := by
          have h := HL.out
          have h2 := hp.length_eq
          simp only [List.length_append, List.length_cons, List.length_nil, List.length_take, List.length_drop] at h h2 ⊢
          omega
        have hperm : (A ++ P ++ [x] ++ Q ++ (X.drop (k + 1 - a) ++ Z)).Perm (A ++ X ++ Z) := by
          have e : A ++ X ++ Z = A ++ (X.take (k + 1 - a) ++ (X.drop (k + 1 - a) ++ Z)) := by rw [← List.append_assoc (List.take _ _), List.take_append_drop]; simp
          rw [e]
          simp only [List.append_assoc]
          refine List.Perm.append_left _ ?_
          have := hp.append_right (X.drop (k + 1 - a) ++ Z)
          simpa only [List.append_assoc] using this
        have hvl := valid_perm HV.out hperm
        have hjl : j < len := by rw [hj, ← hlen]; simp
        have hexit : (∀ p ∈ P, key p ≤ key x) → ∀ q', InsRel key w g a b A X Z (.int .i64 ((k : Int) + 1)) (wr.drewN q') := fun hle q' => by
          refine ⟨k + 1, P ++ ([x] ++ Q), rfl, by omega, .inl hlt, by simpa using hp, srt_insert hs hle (fun q h => Int.le_of_lt (hq q h)), ?_, ?_, only_drewN gr q'⟩
          · simpa only [List.append_assoc] using hst
          · have := ro.drewN q'
            simpa only [List.append_assoc] using this
        have HE := Lib.hid hexit
        clear hexit
        rcases List.eq_nil_or_concat P with hP | ⟨P0, y, hP⟩
        · subst hP
          have hje : j = a := by have := HA.out; simp at hj; omega
          have t1 : decide (a < j) = false := by simp; omega
          have HE2 : Hid (∀ q', InsRel key w g a b A X Z (.int .i64 ((k : Int) + 1)) (wr.drewN q')) := HE.out (fun p hp => by simp at hp)
          clear hj hlen hperm hp hs hq hst ro gr HE hje
          go_wp2_with fail
          go_quiet (fail)
          go_wp2_with fail
          go_roundw
          case rel => exact HE2.out _
          case measure => simp [intOf]; omega
        · rw [List.concat_eq_append] at hP
          subst hP
          have hj1 : A.length + P0.length = j - 1 := by rw [hj]; simp
          have hja1 : a < j := by have := HA.out; simp at hj; omega
          have t1 : decide ((a : Int) < j) = true := by simp; omega
          have e0 : A ++ (P0 ++ [y]) ++ [x] ++ Q ++ (X.drop (k + 1 - a) ++ Z) = (A ++ P0) ++ [y] ++ [] ++ [x] ++ (Q ++ (X.drop (k + 1 - a) ++ Z)) := by simp
          have e1 : (A ++ P0).length = j - 1 := by simpa using hj1
          have e2 : (A ++ P0).length + 1 + ([] : List Int).length = j := by simp; omega
          have cx : wr.cell? ⟨g, j, none⟩ = some (.int .i64 x) := by
            rw [ro.cell (by rw [ints_length, hlen]; omega), ints_get _ _ (by rw [hlen]; omega), e0, ← e2, get_second]
          have cy : wr.cell? ⟨g, j - 1, none⟩ = some (.int .i64 y) := by
            rw [ro.cell (by rw [ints_length, hlen]; omega), ints_get _ _ (by rw [hlen]; omega), e0, ← e1, get_first]
          obtain ⟨vx1, vx2⟩ := hvl x (by simp)
          obtain ⟨vy1, vy2⟩ := hvl y (by simp)
          obtain ⟨kx1, kx2⟩ := HK.out x
          obtain ⟨ky1, ky2⟩ := HK.out y
          have cc : Hid (∀ q, Calls Try.prog 11 #[.int .i64 x, .int .i64 y, c1, c2, c3] (wr.drewN q) fun e w' => e = .returned (.int .i64 (key x - key y)) ∧ ∃ m, w' = (wr.drewN q).drewN m) :=
            fun q => HC.out _ (only_drewN (only_trans HW.out gr) q) x y vx1 vx2 vy1 vy2
          by_cases hlt2 : key x < key y
          · have t2 : decide (key x - key y < 0) = true := by simp; omega
            clear hj hlen hperm hvl HE vx1 vx2 vy1 vy2
            go_wp2_with fail
            go_quiet ((go_at_call 11; exact Calls.quiet_of (cc.out _)))
            go_wp2_with fail
            have c3 := ro.frozen j
            have c4 := ro.frozen (j - 1)
            have hne : (⟨g, j, none⟩ : Addr) ≠ ⟨g, j - 1, none⟩ := fun e => by injection e; omega
            have hne2 : (⟨g, j - 1, none⟩ : Addr) ≠ ⟨g, j, none⟩ := fun e => by injection e; omega
            have ro' := (ro.set j (.int .i64 y)).set (j - 1) (.int .i64 x)
            rw [ints_set, ints_set, e0, List.set_comm _ _ (by omega), swap_at e1 e2] at ro'
            have hst' : Stb key (A ++ P0 ++ [x] ++ (y :: Q) ++ (X.drop (k + 1 - a) ++ Z)) := by
              have h := stb_rot (A := A ++ P0) (U := [y]) (V := [x]) (Z := Q ++ (X.drop (k + 1 - a) ++ Z)) (key := key) (by simpa using hst) (fun u hu v hv => by simp at hu hv; subst hu; subst hv; exact hlt2)
              simpa using h
            have hin' : InsIn key w g A (X.take (k + 1 - a)) (X.drop (k + 1 - a) ++ Z) (.int .i64 ((j : Int) - 1)) (((wr.drewN nq).setCell ⟨g, j, none⟩ (.int .i64 y)).setCell ⟨g, j - 1, none⟩ (.int .i64 x)).drew := by
              refine ⟨P0, y :: Q, x, ?_, ?_, ?_, ?_, hst', ?_, only_drewN (only_setCell (only_setCell (only_drewN gr nq) (.inl rfl) _) (.inl rfl) _) 1⟩
              · rw [hj1]; congr 1; omega
              · refine List.Perm.trans ?_ hp
                simp only [List.append_assoc]
                refine List.Perm.append_left _ ?_
                exact List.Perm.swap x y Q |>.symm
              · simpa using hs
              · intro q hq'
                rw [List.mem_cons] at hq'
                rcases hq' with e | e
                · subst e; exact hlt2
                · exact hq q e
              · have e5 : A ++ P0 ++ [x] ++ (y :: Q) ++ (X.drop (k + 1 - a) ++ Z) = (A ++ P0) ++ [x] ++ [] ++ [y] ++ (Q ++ (X.drop (k + 1 - a) ++ Z)) := by simp
                rw [e5]
                exact ro'
            clear hp hs hq hst ro gr cc hst' ro' e0 e1 e2 hj1
            go_wp2_with fail
            go_region
            go_wp2_with fail
            go_roundw
            case rel => exact hin'
            case measure => simp [intOf]; omega
          · have t2 : decide (key x - key y < 0) = false := by simp; omega
            have hle : ∀ p ∈ P0 ++ [y], key p ≤ key x := by
              intro p hp'
              have h1 := (srt_append.1 hs).1
              rw [List.mem_append] at hp'
              rcases hp' with h | h
              · have := srt_last h1 p h; omega
              · simp at h; subst h; omega
            have HE2 := Lib.hid (HE.out hle)
            clear hj hlen hperm hvl HE vx1 vx2 vy1 vy2 hp hs hq hst ro gr e0 e1 e2 hj1 hle
            go_wp2_with fail
            go_quiet ((go_at_call 11; exact Calls.quiet_of (cc.out _)))
            go_wp2_with fail
            go_roundw
            case rel => exact HE2.out _
            case measure => simp [intOf]; omega
    · have hk : X.take (k - a) = X := List.take_of_length_le (by have := HX.out; omega)
      have hk3 : X.drop (k - a) = [] := List.drop_of_length_le (by have := HX.out; omega)
      rw [hk] at hp
      rw [hk3, List.append_nil] at hst ro
      clear hk hk3 hs0
      go_wp2_with fail
      go_end0
      exact ⟨X', rfl, hp, hs, hst, ro, gr⟩

end Go.Proofs.Ytnikhbdjlipcbaa
