/-
  novationlaw17.EventWords returns true at every two events and every text. Condition: what the package-level variables hold.
-/
import Derived.Test.YtcfgpojogomkhaaGreatDoorXf
namespace Go.Proofs.YtcfgpojogomkhaaGreatDoor
open Go.RowKit

theorem longB_value {x : Ev} (h : longB x = false) : x.value.size ≤ 3000 := by
  unfold longB at h
  simp only [decide_eq_false_iff_not] at h
  omega
theorem joinS_size {x : Ev} (hv : valB x = true) (hs : x.value.size ≤ 3000) : (joinS (textW x)).size ≤ 100000 := by
  have hV := valE hv
  have hk := valB_kind hv
  have l1 := itS_len (n := x.target) hV.ta1 (by have := hV.ta2; omega)
  have l2 := itS_len (n := x.id) (by have := hV.id1; omega) (by have := hV.id2; omega)
  have l3 := itS_len (n := x.entry) hV.en1 hV.en2
  have l4 : (dayS x.date).data.toList.length ≤ 10 := by
    obtain ⟨y, m, d, hd⟩ := date_exists x.date.toNat
    rw [dayS_is hV.da1 hV.da2 hd]
    simp [dateB_len]
  have l5 : x.value.data.toList.length ≤ 3000 := by rw [data_len]; exact hs
  have l6 : (sideS x.first).data.toList.length ≤ 3 := by cases x.first <;> decide
  have l7 : (x.kind = 1 ∨ x.kind = 2) → x.name.data.toList.length ≤ 40 := fun hk => by
    rcases hk with k | k
    · rw [valB_1 k] at hv
      simp only [Bool.and_eq_true] at hv
      exact nmB_size hv.2.2.1.1.1.1.1
    · rw [valB_2 k] at hv
      simp only [Bool.and_eq_true] at hv
      exact nmB_size hv.2.2.1.1.1.2
  have l8 : x.kind = 2 → x.party.data.toList.length ≤ 40 := fun k => by
    rw [valB_2 k] at hv
    simp only [Bool.and_eq_true] at hv
    exact nmB_size hv.2.2.1.1.1.1
  have hlen : (Lib.join ((textW x).map (·.data.toList)) [32]).length ≤ 100000 := by
    refine Nat.le_trans (join_le 3000 _ ?_) ?_
    · intro y hy
      obtain ⟨z, hz, rfl⟩ := List.mem_map.1 hy
      unfold textW at hz
      rcases hk with k | k | k | k | k <;> simp [k] at hz l7 l8 <;> rcases hz with rfl | rfl | rfl | rfl | rfl | rfl | rfl <;> first | omega | (simp; done) | (simp; omega)
    · have : ((textW x).map (·.data.toList)).length ≤ 7 := by
        unfold textW
        rcases hk with k | k | k | k | k <;> simp [k]
      calc _ ≤ 7 * 3001 := Nat.mul_le_mul_right _ this
        _ ≤ _ := by omega
  have e : (joinS (textW x)).size = (Lib.join ((textW x).map (·.data.toList)) [32]).length := by
    rw [← data_len]; rfl
  rw [e]; exact hlen
theorem evOf_value (s : ByteArray) : (evOf (wordsOf s)).value.size ≤ s.size :=
  evAt_size _ _ _ _ (Nat.zero_le _) (words_le s) _
theorem text_no_ct {x : Ev} {w : World} (hs : x.value.size ≤ 100000) (hv : valB x = false) : Ct w 10 #[evV x] (.tuple #[.string ⟨#[]⟩, .int .i64 8]) := fun W _ => text_no x W hs hv
theorem check_yes_ct {x : Ev} {w : World} (hs : x.value.size ≤ 100000) (hv : valB x = true) : Ct w 16 #[evV x] (.int .i64 0) := by
  have := check_ct x w hs
  rw [hv] at this
  exact this
theorem check_no_ct {x : Ev} {w : World} (hs : x.value.size ≤ 100000) (hv : valB x = false) : Ct w 16 #[evV x] (.int .i64 8) := by
  have := check_ct x w hs
  rw [hv] at this
  exact this
theorem texts_eq {x y : Ev} (hx : valB x = true) (hy : valB y = true) : ((joinS (textW x)).toList == (joinS (textW y)).toList) = ((x.kind == y.kind) && ((x.id == y.id) && ((x.entry == y.entry) && ((x.target == y.target) && ((x.date == y.date) && ((x.party.toList == y.party.toList) && ((x.name.toList == y.name.toList) && ((x.value.toList == y.value.toList) && (x.first == y.first))))))))) := by
  rw [← ev_eq, Bool.eq_iff_iff, cmpS_eq]
  constructor
  · intro h
    rw [text_inj hx hy h, cmpEv_self]; rfl
  · intro h
    have e : x = y := cmpEv_zero (by simpa using h)
    rw [e]

theorem words_any (x y : Ev) (s : ByteArray) (w : World) (h : Env w) : Calls Tryz.prog 5 #[evV x, evV y, .string s] w (BelB w true) := by
  have HA := Lib.hid (alive_ct h)
  cases hx : longB x with
  | true => exact words_l1 _ _ _ _ _ _ _ _ _ _ _ _ _ _ _ _ _ _ s w HA (long_hid x _ hx)
  | false =>
    cases hy : longB y with
    | true => exact words_l2 _ _ _ _ _ _ _ _ _ _ _ _ _ _ _ _ _ _ s w HA (long_hid x _ hx) (long_hid y _ hy)
    | false =>
      have h1 := long_hid x _ hx
      have h2 := long_hid y _ hy
      have sx := longB_value hx
      have sy := longB_value hy
      by_cases hs : 3000 < s.size
      · exact words_l3 _ _ _ _ _ _ _ _ _ _ _ _ _ _ _ _ _ _ s w HA h1 h2 (by simp; omega)
      · have gs : decide ((3000 : Int) < (s.size : Int)) = false := by simp; omega
        by_cases hr : ReadsW (wordsOf s)
        · obtain ⟨hv3, hj⟩ := join_reads hr
          have hz := evOf_value s
          have HPS := Lib.hid (parse_ct h hv3 (by rw [hj]; omega))
          have HT3 := Lib.hid (text_ct h (by omega) hv3)
          have HC3 : Hid (Ct w 16 #[evV (evOf (wordsOf s))] (.int .i64 0)) := check_yes_ct (by omega) hv3
          rw [hj] at HPS HT3
          generalize evOf (wordsOf s) = z at HPS HT3 HC3
          cases hvx : valB x with
          | true =>
            cases hvy : valB y with
            | true => exact words_yyy _ _ _ _ _ _ _ _ _ _ _ _ _ _ _ _ _ _ s w _ _ _ _ _ _ _ _ _ _ _ HA h1 h2 gs (Lib.hid (text_ct h (by omega) hvx)) (Lib.hid (text_ct h (by omega) hvy)) (Lib.hid (check_yes_ct (by omega) hvx)) (Lib.hid (parse_ct h hvx (joinS_size hvx sx))) _ _ _ _ _ _ _ _ _ rfl rfl rfl rfl rfl rfl rfl rfl rfl (Lib.hid (texts_eq hvx hvy)) HPS HT3 HC3
            | false => exact words_yny _ _ _ _ _ _ _ _ _ _ _ _ _ _ _ _ _ _ s w _ _ _ _ _ _ _ _ _ _ HA h1 h2 gs (Lib.hid (text_ct h (by omega) hvx)) (Lib.hid (text_no_ct (by omega) hvy)) (Lib.hid (check_yes_ct (by omega) hvx)) (Lib.hid (parse_ct h hvx (joinS_size hvx sx))) HPS HT3 HC3
          | false =>
            cases hvy : valB y with
            | true => exact words_nyy _ _ _ _ _ _ _ _ _ _ _ _ _ _ _ _ _ _ s w _ _ _ _ _ _ _ _ _ _ HA h1 h2 gs (Lib.hid (text_no_ct (by omega) hvx)) (Lib.hid (text_ct h (by omega) hvy)) (Lib.hid (check_no_ct (by omega) hvx)) HPS HT3 HC3
            | false => exact words_nny _ _ _ _ _ _ _ _ _ _ _ _ _ _ _ _ _ _ s w _ _ _ _ _ _ _ _ _ HA h1 h2 gs (Lib.hid (text_no_ct (by omega) hvx)) (Lib.hid (text_no_ct (by omega) hvy)) (Lib.hid (check_no_ct (by omega) hvx)) HPS HT3 HC3
        · have HPS := Lib.hid (parse_no_ct h s (by omega) hr)
          cases hvx : valB x with
          | true =>
            cases hvy : valB y with
            | true => exact words_yyn _ _ _ _ _ _ _ _ _ _ _ _ _ _ _ _ _ _ s w _ _ HA h1 h2 gs (Lib.hid (text_ct h (by omega) hvx)) (Lib.hid (text_ct h (by omega) hvy)) (Lib.hid (check_yes_ct (by omega) hvx)) (Lib.hid (parse_ct h hvx (joinS_size hvx sx))) _ _ _ _ _ _ _ _ _ rfl rfl rfl rfl rfl rfl rfl rfl rfl (Lib.hid (texts_eq hvx hvy)) HPS
            | false => exact words_ynn _ _ _ _ _ _ _ _ _ _ _ _ _ _ _ _ _ _ s w _ HA h1 h2 gs (Lib.hid (text_ct h (by omega) hvx)) (Lib.hid (text_no_ct (by omega) hvy)) (Lib.hid (check_yes_ct (by omega) hvx)) (Lib.hid (parse_ct h hvx (joinS_size hvx sx))) HPS
          | false =>
            cases hvy : valB y with
            | true => exact words_nyn _ _ _ _ _ _ _ _ _ _ _ _ _ _ _ _ _ _ s w _ HA h1 h2 gs (Lib.hid (text_no_ct (by omega) hvx)) (Lib.hid (text_ct h (by omega) hvy)) (Lib.hid (check_no_ct (by omega) hvx)) HPS
            | false => exact words_nnn _ _ _ _ _ _ _ _ _ _ _ _ _ _ _ _ _ _ s w HA h1 h2 gs (Lib.hid (text_no_ct (by omega) hvx)) (Lib.hid (text_no_ct (by omega) hvy)) (Lib.hid (check_no_ct (by omega) hvx)) HPS

end Go.Proofs.YtcfgpojogomkhaaGreatDoor
