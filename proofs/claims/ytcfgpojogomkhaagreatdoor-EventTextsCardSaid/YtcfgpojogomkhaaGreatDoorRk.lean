/-
  The reference's event.Text and event.Parse at any event and text. Condition: the value has at most 100,000 bytes; a text at most 100,000 bytes.
-/
import Derived.Test.YtcfgpojogomkhaaGreatDoorRa
import Derived.Test.YtcfgpojogomkhaaGreatDoorRb
import Derived.Test.YtcfgpojogomkhaaGreatDoorRe
import Derived.Test.YtcfgpojogomkhaaGreatDoorRg0
import Derived.Test.YtcfgpojogomkhaaGreatDoorRh
import Derived.Test.YtcfgpojogomkhaaGreatDoorRi
import Derived.Test.YtcfgpojogomkhaaGreatDoorRj
import Derived.Test.YtcfgpojogomkhaaGreatDoorWf
import Derived.Test.YtcfgpojogomkhaaGreatDoorVq
import Derived.Test.YtcfgpojogomkhaaGreatDoorVt
namespace Go.Proofs.YtcfgpojogomkhaaGreatDoor
open Go.RowKit

def kF : ByteArray := ⟨#[102, 105, 120]⟩
def kC : ByteArray := ⟨#[99, 104, 111, 105, 99, 101]⟩
def kV : ByteArray := ⟨#[118, 97, 108, 117, 101]⟩
def kS : ByteArray := ⟨#[115, 105, 100, 101]⟩
def kN : ByteArray := ⟨#[99, 97, 110, 99, 101, 108]⟩
/-- The five forms of a valid event. -/
theorem ev_forms {y : Ev} (hv : valB y = true) :
    (∃ i e d n v, y = ⟨1, i, e, 0, d, ⟨#[]⟩, n, v, false⟩ ∧ textW y = [kF, itS i, itS e, n, dayS d, v]) ∨
    (∃ i e d p n f, y = ⟨2, i, e, 0, d, p, n, ⟨#[]⟩, f⟩ ∧ textW y = [kC, itS i, itS e, p, n, dayS d, sideS f]) ∨
    (∃ i e t v, y = ⟨3, i, e, t, 0, ⟨#[]⟩, ⟨#[]⟩, v, false⟩ ∧ textW y = [kV, itS i, itS e, itS t, v]) ∨
    (∃ i e t f, y = ⟨4, i, e, t, 0, ⟨#[]⟩, ⟨#[]⟩, ⟨#[]⟩, f⟩ ∧ textW y = [kS, itS i, itS e, itS t, sideS f]) ∨
    (∃ i e t, y = ⟨5, i, e, t, 0, ⟨#[]⟩, ⟨#[]⟩, ⟨#[]⟩, false⟩ ∧ textW y = [kN, itS i, itS e, itS t]) := by
  obtain ⟨K, i, e, t, d, p, n, v, f⟩ := y
  rcases valB_kind hv with k | k | k | k | k <;> dsimp only at k <;> subst k
  · have h := hv
    rw [valB_1 rfl] at h
    simp only [Bool.and_eq_true, beq_iff_eq, Bool.not_eq_true'] at h
    obtain ⟨_, _, ⟨⟨_, ht⟩, hp⟩, hf⟩ := h
    obtain rfl : p = ⟨#[]⟩ := empty_of hp
    subst ht hf
    exact .inl ⟨i, e, d, n, v, rfl, by simp [textW, kF]⟩
  · have h := hv
    rw [valB_2 rfl] at h
    simp only [Bool.and_eq_true, beq_iff_eq] at h
    obtain ⟨_, _, ⟨_, ht⟩, hp⟩ := h
    obtain rfl : v = ⟨#[]⟩ := empty_of hp
    subst ht
    exact .inr (.inl ⟨i, e, d, p, n, f, rfl, by simp [textW, kC]⟩)
  · have h := hv
    rw [valB_3 rfl] at h
    simp only [Bool.and_eq_true, beq_iff_eq, Bool.not_eq_true'] at h
    obtain ⟨_, _, ⟨⟨⟨_, hd⟩, hp⟩, hn⟩, hf⟩ := h
    obtain rfl : p = ⟨#[]⟩ := empty_of hp
    obtain rfl : n = ⟨#[]⟩ := empty_of hn
    subst hd hf
    exact .inr (.inr (.inl ⟨i, e, t, v, rfl, by simp [textW, kV]⟩))
  · have h := hv
    rw [valB_4 rfl] at h
    simp only [Bool.and_eq_true, beq_iff_eq] at h
    obtain ⟨_, _, ⟨⟨⟨_, hd⟩, hp⟩, hn⟩, hx⟩ := h
    obtain rfl : p = ⟨#[]⟩ := empty_of hp
    obtain rfl : n = ⟨#[]⟩ := empty_of hn
    obtain rfl : v = ⟨#[]⟩ := empty_of hx
    subst hd
    exact .inr (.inr (.inr (.inl ⟨i, e, t, f, rfl, by simp [textW, kS]⟩)))
  · have h := hv
    rw [valB_5 rfl] at h
    simp only [Bool.and_eq_true, beq_iff_eq, Bool.not_eq_true'] at h
    obtain ⟨_, _, ⟨⟨⟨⟨_, hd⟩, hp⟩, hn⟩, hx⟩, hf⟩ := h
    obtain rfl : p = ⟨#[]⟩ := empty_of hp
    obtain rfl : n = ⟨#[]⟩ := empty_of hn
    obtain rfl : v = ⟨#[]⟩ := empty_of hx
    subst hd hf
    exact .inr (.inr (.inr (.inr ⟨i, e, t, rfl, by simp [textW, kN]⟩)))

theorem decCa {n : Int} (h0 : 0 ≤ n) (h1 : n ≤ 1125899906842624) : Ca 27 #[.int .i64 n] (.string (itS n)) := fun W => dec_ct n W h0 h1 W (Below.refl _ _)
theorem rdtextCa {n : Int} (h0 : 0 ≤ n) (h1 : n ≤ 99999) : Ca 28 #[.int .i64 n] (.tuple #[.string (dayS n), .int .i64 0]) := fun W => by
  obtain ⟨y, m, d, h⟩ := date_exists n.toNat
  have := rdtext_ok n.toNat y m d W (by omega) h
  rw [dayS_is h0 h1 h]
  rw [Int.toNat_of_nonneg h0] at this
  exact this
theorem figCa (s : ByteArray) : Ca 35 #[.string s] (.int .i64 (figV s.data.toList)) := fun W => (figure_any s W).mono fun _ _ ⟨h, e⟩ => ⟨h, by rw [← e]; exact Below.refl _ _⟩

theorem rtext_any (x : Ev) (hs : x.value.size ≤ 100000) : Ca 11 #[evV x] (.tuple #[.string (if valB x = true then joinS (textW x) else ⟨#[]⟩), .int .i64 (if valB x = true then 0 else 8)]) := fun w => by
  have HV := Lib.hid (fun W => valid_ev x W hs)
  cases hv : valB x with
  | false =>
    rw [hv] at HV
    simp only [Bool.false_eq_true, if_false]
    exact rtext_no _ _ _ _ _ _ _ _ _ w HV
  | true =>
    rw [hv] at HV
    simp only [if_true]
    have V := valE hv
    have zi : (itS x.id).size ≤ 100000 := by have := itS_len (n := x.id) (by have := V.id1; omega) (by have := V.id2; omega); rw [data_len] at this; omega
    have ze : (itS x.entry).size ≤ 100000 := by have := itS_len (n := x.entry) V.en1 V.en2; rw [data_len] at this; omega
    have zt : (itS x.target).size ≤ 100000 := by have := itS_len (n := x.target) V.ta1 (by have := V.ta2; omega); rw [data_len] at this; omega
    have zd : (dayS x.date).size ≤ 100000 := by
      obtain ⟨y, m, d, hd⟩ := date_exists x.date.toNat
      rw [dayS_is V.da1 V.da2 hd, ← data_len]
      simp [dateB_len]
    have HI := Lib.hid (decCa (n := x.id) (by have := V.id1; omega) (by have := V.id2; omega))
    have HE := Lib.hid (decCa (n := x.entry) V.en1 V.en2)
    have HT := Lib.hid (decCa (n := x.target) V.ta1 (by have := V.ta2; omega))
    have HD := Lib.hid (rdtextCa V.da1 V.da2)
    have HS := Lib.hid (pick_any x.first)
    have zs : (if x.first = true then (⟨#[121, 101, 115]⟩ : ByteArray) else ⟨#[110, 111]⟩).size ≤ 100000 := by cases x.first <;> decide
    have zn : (x.kind = 1 ∨ x.kind = 2) → x.name.size ≤ 100000 := fun hk => by
      have : x.name.data.toList.length ≤ 40 := by
        rcases hk with k | k
        · rw [valB_1 k] at hv
          simp only [Bool.and_eq_true] at hv
          exact nmB_size hv.2.2.1.1.1.1.1
        · rw [valB_2 k] at hv
          simp only [Bool.and_eq_true] at hv
          exact nmB_size hv.2.2.1.1.1.2
      rw [data_len] at this; omega
    have zp : x.kind = 2 → x.party.size ≤ 100000 := fun k => by
      have : x.party.data.toList.length ≤ 40 := by
        rw [valB_2 k] at hv
        simp only [Bool.and_eq_true] at hv
        exact nmB_size hv.2.2.1.1.1.1
      rw [data_len] at this; omega
    have hk := valB_kind hv
    clear hv V
    unfold textW
    obtain ⟨K, i1, e1, t1, d1, p1, n1, v1, f1⟩ := x
    unfold evV
    dsimp only at HV HI HE HT HD HS hk hs zi ze zt zd zs zn zp ⊢
    rcases hk with rfl | rfl | rfl | rfl | rfl
    · exact rtext_1 i1 e1 t1 d1 p1 n1 v1 f1 w _ _ _ HV HI HE HD zi ze (zn (.inl rfl)) zd hs
    · exact rtext_2 i1 e1 t1 d1 p1 n1 v1 f1 w _ _ _ _ HV HI HE HD HS zi ze (zp rfl) (zn (.inr rfl)) zd zs
    · exact rtext_3 i1 e1 t1 d1 p1 n1 v1 f1 w _ _ _ _ HV HI HE HD HT zi ze zt hs
    · exact rtext_4 i1 e1 t1 d1 p1 n1 v1 f1 w _ _ _ _ _ HV HI HE HD HT HS zi ze zt zs
    · exact rtext_5 i1 e1 t1 d1 p1 n1 v1 f1 w _ _ _ _ HV HI HE HD HT zi ze zt

theorem dtext_day {d : Int} (h0 : 0 ≤ d) (h1 : d ≤ 99999) {v : Int} (h : ∀ day, DText (dayS d).data.toList day → v = (day : Int)) : v = d := by
  obtain ⟨y, m, dd, hd⟩ := date_exists d.toNat
  rw [dayS_is h0 h1 hd] at h
  rw [h d.toNat ⟨by omega, y, m, dd, hd, rfl⟩]
  omega
theorem rp_par {w : World} {s : ByteArray} {x : Ev} {G : Bool} {e : Ending} {w' : World} (h : RpP w (evV x) G e w') (hG : G = true → valB x = true ∧ joinS (textW x) = s) (hN : G = false → ¬ReadsW (wordsOf s)) : ParP w (wordsOf s) e w' := by
  obtain ⟨hb, ⟨hg, he⟩ | ⟨hg, he⟩⟩ := h
  · obtain ⟨h1, h2⟩ := hG hg
    refine ⟨hb, .inl ⟨reads_iff.2 ⟨x, h1, h2⟩, ?_⟩⟩
    rw [reads_ev h1 h2]; exact he
  · exact ⟨hb, .inr ⟨hN hg, he⟩⟩
theorem rp_no {w : World} {s : ByteArray} {e : Ending} {w' : World} (h : RpP w zEv false e w') (hN : ¬ReadsW (wordsOf s)) : ParP w (wordsOf s) e w' := by
  obtain ⟨hb, ⟨hg, _⟩ | ⟨_, he⟩⟩ := h
  · cases hg
  · exact ⟨hb, .inr ⟨hN, he⟩⟩
/-- The three ways of the last test. -/
theorem rp_case (x : Ev) (s : ByteArray) : ((if valB x = true then (0 : Int) else 8) = 8 ∧ decide (valB x = true ∧ joinS (textW x) = s) = false) ∨ ((if valB x = true then (0 : Int) else 8) = 0 ∧ ((if valB x = true then joinS (textW x) else ⟨#[]⟩).toList == s.toList) = false ∧ decide (valB x = true ∧ joinS (textW x) = s) = false) ∨ ((if valB x = true then (0 : Int) else 8) = 0 ∧ ((if valB x = true then joinS (textW x) else ⟨#[]⟩).toList == s.toList) = true ∧ decide (valB x = true ∧ joinS (textW x) = s) = true) := by
  by_cases hv : valB x = true
  · rw [if_pos hv, if_pos hv]
    by_cases hj : joinS (textW x) = s
    · exact .inr (.inr ⟨rfl, by rw [hj]; simp, decide_eq_true ⟨hv, hj⟩⟩)
    · exact .inr (.inl ⟨rfl, list_neq hj, decide_eq_false fun h => hj h.2⟩)
  · exact .inl ⟨if_neg hv, decide_eq_false fun h => hv h.1⟩
theorem tl_ne {x : ByteArray} {l : List UInt8} (h : x ≠ ⟨l.toArray⟩) : (x.toList == l) = false := by
  have := list_neq h
  rw [Lib.toList_data ⟨l.toArray⟩] at this
  exact this
theorem tl_eq {x : ByteArray} {l : List UInt8} (h : x = ⟨l.toArray⟩) : (x.toList == l) = true := by
  subst h; rw [Lib.toList_data]; simp
theorem side_eq (f : Bool) : ((sideS f).toList == [121, 101, 115]) = f := by rw [Lib.toList_data]; cases f <;> decide

theorem rparse_any (s : ByteArray) (hs : s.size ≤ 100000) (w : World) : Calls Tryz.prog 13 #[.string s] w (ParP w (wordsOf s)) := by
  have HC : Hid (∀ W, Calls Tryz.prog 34 #[.string s] W (CutN W (wordsOf s).length ((wordsOf s).map Value.string))) := fun W => cut_any s W (by omega)
  have hlen : ReadsW (wordsOf s) → 4 ≤ (wordsOf s).length := fun h => by
    rw [reads_words h]
    rcases ev_forms h.2.2.2 with ⟨_, _, _, _, _, _, e⟩ | ⟨_, _, _, _, _, _, _, e⟩ | ⟨_, _, _, _, _, e⟩ | ⟨_, _, _, _, _, e⟩ | ⟨_, _, _, _, e⟩ <;> rw [e] <;> simp
  have hle := words_le s
  have hrd : ReadsW (wordsOf s) → valB (evOf (wordsOf s)) = true ∧ joinS (textW (evOf (wordsOf s))) = s ∧ wordsOf s = textW (evOf (wordsOf s)) := fun h => ⟨(join_reads h).1, (join_reads h).2, reads_words h⟩
  by_cases h4 : (wordsOf s).length < 4
  · exact (rparse_few s _ _ w h4 HC).mono fun e w' h => rp_no h fun hr => by have := hlen hr; omega
  · obtain ⟨ws, hws⟩ : ∃ ws, ws = wordsOf s := ⟨_, rfl⟩
    rw [← hws] at HC hle h4
    obtain ⟨x0, x1, x2, x3, r, hw⟩ : ∃ x0 x1 x2 x3 r, ws = x0 :: x1 :: x2 :: x3 :: r := by
      match ws, h4 with
      | x0 :: x1 :: x2 :: x3 :: r, _ => exact ⟨_, _, _, _, _, rfl⟩
      | [], h => simp at h
      | [_], h => simp at h
      | [_, _], h => simp at h
      | [_, _, _], h => simp at h
    have H1 := Lib.hid (figCa x1)
    have H2 := Lib.hid (figCa x2)
    have H3 := Lib.hid (figCa x3)
    by_cases k1 : x0 = kF
    · have t1 := tl_eq k1
      by_cases hn : ws.length = 6
      · obtain ⟨y0, y1, y2, y3, x4, x5, e6⟩ := list6 ws hn
        have hr : r = [x4, x5] := by
          rw [e6] at hw
          simp only [List.cons.injEq] at hw
          exact hw.2.2.2.2.symm
        subst hr
        obtain ⟨D, hD, hDD⟩ := rdparse_any x4
        have hz : x5.size ≤ 100000 := by have := hle x5 (by rw [hw]; simp); omega
        refine (rparse_1 s _ x0 x1 x2 x3 x4 x5 _ ws.length _ _ _ D _ w (by rw [hw]; rfl) (by rw [hw]; rfl) (by rw [hw]; rfl) (by rw [hw]; rfl) (by rw [hw]; rfl) (by rw [hw]; rfl) t1 hn HC H1 H2 (Lib.hid hD) (Lib.hid (rtext_any ⟨1, figV x1.data.toList, figV x2.data.toList, 0, D, ⟨#[]⟩, x3, x5, false⟩ hz)) (rp_case _ s)).mono fun e w' h => rp_par (x := ⟨1, figV x1.data.toList, figV x2.data.toList, 0, D, ⟨#[]⟩, x3, x5, false⟩) h of_decide_eq_true fun hg hR => ?_
        refine of_decide_eq_false hg ?_
        obtain ⟨hv, hj, hW⟩ := hrd hR
        rw [← hws] at hW hv hj
        have V := valE hv
        rcases ev_forms hv with ⟨i, e, d, n, v, ey, et⟩ | ⟨_, _, _, _, _, _, _, et⟩ | ⟨_, _, _, _, _, et⟩ | ⟨_, _, _, _, _, et⟩ | ⟨_, _, _, _, et⟩
        · rw [ey] at V
          rw [et, hw] at hW
          simp only [List.cons.injEq, and_true] at hW
          obtain ⟨_, a1, a2, a3, a4, a5⟩ := hW
          have q1 : figV x1.data.toList = i := by rw [a1]; exact figV_it (by have := V.id1; exact Int.le_trans (by decide) this) (Int.le_trans V.id2 (by decide))
          have q2 : figV x2.data.toList = e := by rw [a2]; exact figV_it V.en1 V.en2
          have q4 : D = d := dtext_day V.da1 V.da2 (by rw [← a4]; exact hDD)
          rw [q1, q2, q4, a3, a5, ← ey]
          exact ⟨hv, hj⟩
        all_goals
          rw [et, hw, k1] at hW
          exact absurd (List.cons.inj hW).1 (by decide)
      · refine (rparse_no1 s x0 x1 x2 _ ws.length _ _ w (by rw [hw]; rfl) (by rw [hw]; rfl) (by rw [hw]; rfl) (by omega) t1 (tl_ne (by rw [k1]; decide)) (tl_ne (by rw [k1]; decide)) (tl_ne (by rw [k1]; decide)) (tl_ne (by rw [k1]; decide)) hn HC H1 H2).mono fun e w' h => rp_no h fun hR => ?_
        obtain ⟨hv, hj, hW⟩ := hrd hR
        rw [← hws] at hW hv
        rcases ev_forms hv with ⟨i, e, d, n, v, ey, et⟩ | ⟨_, _, _, _, _, _, _, et⟩ | ⟨_, _, _, _, _, et⟩ | ⟨_, _, _, _, _, et⟩ | ⟨_, _, _, _, et⟩
        · exact hn (by rw [hW, et]; rfl)
        all_goals
          rw [et, hw, k1] at hW
          exact absurd (List.cons.inj hW).1 (by decide)
    have u1 : (x0.toList == [102, 105, 120]) = false := tl_ne k1
    by_cases k2 : x0 = kC
    · have t2 := tl_eq k2
      by_cases hn : ws.length = 7
      · obtain ⟨y0, y1, y2, y3, x4, x5, x6, e6⟩ := list7 ws hn
        have hr : r = [x4, x5, x6] := by
          rw [e6] at hw
          simp only [List.cons.injEq] at hw
          exact hw.2.2.2.2.symm
        subst hr
        obtain ⟨D, hD, hDD⟩ := rdparse_any x5
        have hz : (⟨#[]⟩ : ByteArray).size ≤ 100000 := by decide
        refine (rparse_2 s _ x0 x1 x2 x3 x4 x5 x6 _ ws.length _ _ _ D _ _ w (by rw [hw]; rfl) (by rw [hw]; rfl) (by rw [hw]; rfl) (by rw [hw]; rfl) (by rw [hw]; rfl) (by rw [hw]; rfl) (by rw [hw]; rfl) u1 t2 hn HC H1 H2 (Lib.hid hD) rfl (Lib.hid (rtext_any ⟨2, figV x1.data.toList, figV x2.data.toList, 0, D, x3, x4, ⟨#[]⟩, x6.toList == [121, 101, 115]⟩ hz)) (rp_case _ s)).mono fun e w' h => rp_par (x := ⟨2, figV x1.data.toList, figV x2.data.toList, 0, D, x3, x4, ⟨#[]⟩, x6.toList == [121, 101, 115]⟩) h of_decide_eq_true fun hg hR => ?_
        refine of_decide_eq_false hg ?_
        obtain ⟨hv, hj, hW⟩ := hrd hR
        rw [← hws] at hW hv hj
        have V := valE hv
        rcases ev_forms hv with ⟨_, _, _, _, _, _, et⟩ | ⟨i, e, d, p, n, f, ey, et⟩ | ⟨_, _, _, _, _, et⟩ | ⟨_, _, _, _, _, et⟩ | ⟨_, _, _, _, et⟩
        rotate_left
        · rw [ey] at V
          rw [et, hw] at hW
          simp only [List.cons.injEq, and_true] at hW
          obtain ⟨_, a1, a2, a3, a4, a5, a6⟩ := hW
          have q1 : figV x1.data.toList = i := by rw [a1]; exact figV_it (by have := V.id1; exact Int.le_trans (by decide) this) (Int.le_trans V.id2 (by decide))
          have q2 : figV x2.data.toList = e := by rw [a2]; exact figV_it V.en1 V.en2
          have q4 : D = d := dtext_day V.da1 V.da2 (by rw [← a5]; exact hDD)
          have q6 : (x6.toList == [121, 101, 115]) = f := by rw [a6]; exact side_eq f
          rw [q1, q2, q4, a3, a4, q6, ← ey]
          exact ⟨hv, hj⟩
        all_goals
          rw [et, hw, k2] at hW
          exact absurd (List.cons.inj hW).1 (by decide)
      · refine (rparse_no2 s x0 x1 x2 _ ws.length _ _ w (by rw [hw]; rfl) (by rw [hw]; rfl) (by rw [hw]; rfl) (by omega) u1 t2 (tl_ne (by rw [k2]; decide)) (tl_ne (by rw [k2]; decide)) (tl_ne (by rw [k2]; decide)) hn HC H1 H2).mono fun e w' h => rp_no h fun hR => ?_
        obtain ⟨hv, hj, hW⟩ := hrd hR
        rw [← hws] at hW hv
        rcases ev_forms hv with ⟨_, _, _, _, _, _, et⟩ | ⟨i, e, d, p, n, f, ey, et⟩ | ⟨_, _, _, _, _, et⟩ | ⟨_, _, _, _, _, et⟩ | ⟨_, _, _, _, et⟩
        rotate_left
        · exact hn (by rw [hW, et]; rfl)
        all_goals
          rw [et, hw, k2] at hW
          exact absurd (List.cons.inj hW).1 (by decide)
    have u2 : (x0.toList == [99, 104, 111, 105, 99, 101]) = false := tl_ne k2
    by_cases k3 : x0 = kV
    · have t3 := tl_eq k3
      by_cases hn : ws.length = 5
      · obtain ⟨y0, y1, y2, y3, x4, e6⟩ := list5 ws hn
        have hr : r = [x4] := by
          rw [e6] at hw
          simp only [List.cons.injEq] at hw
          exact hw.2.2.2.2.symm
        subst hr
        have hz : x4.size ≤ 100000 := by have := hle x4 (by rw [hw]; simp); omega
        refine (rparse_3 s _ x0 x1 x2 x3 x4 _ ws.length _ _ _ _ _ w (by rw [hw]; rfl) (by rw [hw]; rfl) (by rw [hw]; rfl) (by rw [hw]; rfl) (by rw [hw]; rfl) u1 u2 t3 hn HC H1 H2 H3 (Lib.hid (rtext_any ⟨3, figV x1.data.toList, figV x2.data.toList, figV x3.data.toList, 0, ⟨#[]⟩, ⟨#[]⟩, x4, false⟩ hz)) (rp_case _ s)).mono fun e w' h => rp_par (x := ⟨3, figV x1.data.toList, figV x2.data.toList, figV x3.data.toList, 0, ⟨#[]⟩, ⟨#[]⟩, x4, false⟩) h of_decide_eq_true fun hg hR => ?_
        refine of_decide_eq_false hg ?_
        obtain ⟨hv, hj, hW⟩ := hrd hR
        rw [← hws] at hW hv hj
        have V := valE hv
        rcases ev_forms hv with ⟨_, _, _, _, _, _, et⟩ | ⟨_, _, _, _, _, _, _, et⟩ | ⟨i, e, t, v, ey, et⟩ | ⟨_, _, _, _, _, et⟩ | ⟨_, _, _, _, et⟩
        rotate_left 2
        · rw [ey] at V
          rw [et, hw] at hW
          simp only [List.cons.injEq, and_true] at hW
          obtain ⟨_, a1, a2, a3, a4⟩ := hW
          have q1 : figV x1.data.toList = i := by rw [a1]; exact figV_it (by have := V.id1; exact Int.le_trans (by decide) this) (Int.le_trans V.id2 (by decide))
          have q2 : figV x2.data.toList = e := by rw [a2]; exact figV_it V.en1 V.en2
          have q3 : figV x3.data.toList = t := by rw [a3]; exact figV_it V.ta1 (Int.le_trans V.ta2 (by decide))
          rw [q1, q2, q3, a4, ← ey]
          exact ⟨hv, hj⟩
        all_goals
          rw [et, hw, k3] at hW
          exact absurd (List.cons.inj hW).1 (by decide)
      · refine (rparse_no3 s x0 x1 x2 _ ws.length _ _ w (by rw [hw]; rfl) (by rw [hw]; rfl) (by rw [hw]; rfl) (by omega) u1 u2 t3 (tl_ne (by rw [k3]; decide)) (tl_ne (by rw [k3]; decide)) hn HC H1 H2).mono fun e w' h => rp_no h fun hR => ?_
        obtain ⟨hv, hj, hW⟩ := hrd hR
        rw [← hws] at hW hv
        rcases ev_forms hv with ⟨_, _, _, _, _, _, et⟩ | ⟨_, _, _, _, _, _, _, et⟩ | ⟨i, e, t, v, ey, et⟩ | ⟨_, _, _, _, _, et⟩ | ⟨_, _, _, _, et⟩
        rotate_left 2
        · exact hn (by rw [hW, et]; rfl)
        all_goals
          rw [et, hw, k3] at hW
          exact absurd (List.cons.inj hW).1 (by decide)
    have u3 : (x0.toList == [118, 97, 108, 117, 101]) = false := tl_ne k3
    by_cases k4 : x0 = kS
    · have t4 := tl_eq k4
      by_cases hn : ws.length = 5
      · obtain ⟨y0, y1, y2, y3, x4, e6⟩ := list5 ws hn
        have hr : r = [x4] := by
          rw [e6] at hw
          simp only [List.cons.injEq] at hw
          exact hw.2.2.2.2.symm
        subst hr
        have hz : (⟨#[]⟩ : ByteArray).size ≤ 100000 := by decide
        refine (rparse_4 s _ x0 x1 x2 x3 x4 _ ws.length _ _ _ _ _ _ w (by rw [hw]; rfl) (by rw [hw]; rfl) (by rw [hw]; rfl) (by rw [hw]; rfl) (by rw [hw]; rfl) u1 u2 u3 t4 hn HC H1 H2 H3 rfl (Lib.hid (rtext_any ⟨4, figV x1.data.toList, figV x2.data.toList, figV x3.data.toList, 0, ⟨#[]⟩, ⟨#[]⟩, ⟨#[]⟩, x4.toList == [121, 101, 115]⟩ hz)) (rp_case _ s)).mono fun e w' h => rp_par (x := ⟨4, figV x1.data.toList, figV x2.data.toList, figV x3.data.toList, 0, ⟨#[]⟩, ⟨#[]⟩, ⟨#[]⟩, x4.toList == [121, 101, 115]⟩) h of_decide_eq_true fun hg hR => ?_
        refine of_decide_eq_false hg ?_
        obtain ⟨hv, hj, hW⟩ := hrd hR
        rw [← hws] at hW hv hj
        have V := valE hv
        rcases ev_forms hv with ⟨_, _, _, _, _, _, et⟩ | ⟨_, _, _, _, _, _, _, et⟩ | ⟨_, _, _, _, _, et⟩ | ⟨i, e, t, f, ey, et⟩ | ⟨_, _, _, _, et⟩
        rotate_left 3
        · rw [ey] at V
          rw [et, hw] at hW
          simp only [List.cons.injEq, and_true] at hW
          obtain ⟨_, a1, a2, a3, a4⟩ := hW
          have q1 : figV x1.data.toList = i := by rw [a1]; exact figV_it (by have := V.id1; exact Int.le_trans (by decide) this) (Int.le_trans V.id2 (by decide))
          have q2 : figV x2.data.toList = e := by rw [a2]; exact figV_it V.en1 V.en2
          have q3 : figV x3.data.toList = t := by rw [a3]; exact figV_it V.ta1 (Int.le_trans V.ta2 (by decide))
          have q6 : (x4.toList == [121, 101, 115]) = f := by rw [a4]; exact side_eq f
          rw [q1, q2, q3, q6, ← ey]
          exact ⟨hv, hj⟩
        all_goals
          rw [et, hw, k4] at hW
          exact absurd (List.cons.inj hW).1 (by decide)
      · refine (rparse_no4 s x0 x1 x2 _ ws.length _ _ w (by rw [hw]; rfl) (by rw [hw]; rfl) (by rw [hw]; rfl) (by omega) u1 u2 u3 t4 (tl_ne (by rw [k4]; decide)) hn HC H1 H2).mono fun e w' h => rp_no h fun hR => ?_
        obtain ⟨hv, hj, hW⟩ := hrd hR
        rw [← hws] at hW hv
        rcases ev_forms hv with ⟨_, _, _, _, _, _, et⟩ | ⟨_, _, _, _, _, _, _, et⟩ | ⟨_, _, _, _, _, et⟩ | ⟨i, e, t, f, ey, et⟩ | ⟨_, _, _, _, et⟩
        rotate_left 3
        · exact hn (by rw [hW, et]; rfl)
        all_goals
          rw [et, hw, k4] at hW
          exact absurd (List.cons.inj hW).1 (by decide)
    have u4 : (x0.toList == [115, 105, 100, 101]) = false := tl_ne k4
    by_cases k5 : x0 = kN
    · have t5 := tl_eq k5
      by_cases hn : ws.length = 4
      · have hr : r = [] := by
          rw [hw] at hn
          exact List.eq_nil_of_length_eq_zero (by simpa using hn)
        subst hr
        have hz : (⟨#[]⟩ : ByteArray).size ≤ 100000 := by decide
        refine (rparse_5 s _ x0 x1 x2 x3 _ ws.length _ _ _ _ _ w (by rw [hw]; rfl) (by rw [hw]; rfl) (by rw [hw]; rfl) (by rw [hw]; rfl) u1 u2 u3 u4 t5 hn HC H1 H2 H3 (Lib.hid (rtext_any ⟨5, figV x1.data.toList, figV x2.data.toList, figV x3.data.toList, 0, ⟨#[]⟩, ⟨#[]⟩, ⟨#[]⟩, false⟩ hz)) (rp_case _ s)).mono fun e w' h => rp_par (x := ⟨5, figV x1.data.toList, figV x2.data.toList, figV x3.data.toList, 0, ⟨#[]⟩, ⟨#[]⟩, ⟨#[]⟩, false⟩) h of_decide_eq_true fun hg hR => ?_
        refine of_decide_eq_false hg ?_
        obtain ⟨hv, hj, hW⟩ := hrd hR
        rw [← hws] at hW hv hj
        have V := valE hv
        rcases ev_forms hv with ⟨_, _, _, _, _, _, et⟩ | ⟨_, _, _, _, _, _, _, et⟩ | ⟨_, _, _, _, _, et⟩ | ⟨_, _, _, _, _, et⟩ | ⟨i, e, t, ey, et⟩
        rotate_left 4
        · rw [ey] at V
          rw [et, hw] at hW
          simp only [List.cons.injEq, and_true] at hW
          obtain ⟨_, a1, a2, a3⟩ := hW
          have q1 : figV x1.data.toList = i := by rw [a1]; exact figV_it (by have := V.id1; exact Int.le_trans (by decide) this) (Int.le_trans V.id2 (by decide))
          have q2 : figV x2.data.toList = e := by rw [a2]; exact figV_it V.en1 V.en2
          have q3 : figV x3.data.toList = t := by rw [a3]; exact figV_it V.ta1 (Int.le_trans V.ta2 (by decide))
          rw [q1, q2, q3, ← ey]
          exact ⟨hv, hj⟩
        all_goals
          rw [et, hw, k5] at hW
          exact absurd (List.cons.inj hW).1 (by decide)
      · refine (rparse_no5 s x0 x1 x2 _ ws.length _ _ w (by rw [hw]; rfl) (by rw [hw]; rfl) (by rw [hw]; rfl) (by omega) u1 u2 u3 u4 t5 hn HC H1 H2).mono fun e w' h => rp_no h fun hR => ?_
        obtain ⟨hv, hj, hW⟩ := hrd hR
        rw [← hws] at hW hv
        rcases ev_forms hv with ⟨_, _, _, _, _, _, et⟩ | ⟨_, _, _, _, _, _, _, et⟩ | ⟨_, _, _, _, _, et⟩ | ⟨_, _, _, _, _, et⟩ | ⟨i, e, t, ey, et⟩
        rotate_left 4
        · exact hn (by rw [hW, et]; rfl)
        all_goals
          rw [et, hw, k5] at hW
          exact absurd (List.cons.inj hW).1 (by decide)
    have u5 : (x0.toList == [99, 97, 110, 99, 101, 108]) = false := tl_ne k5
    refine (rparse_no0 s x0 x1 x2 _ ws.length _ _ w (by rw [hw]; rfl) (by rw [hw]; rfl) (by rw [hw]; rfl) (by omega) u1 u2 u3 u4 u5 HC H1 H2).mono fun e w' h => rp_no h fun hR => ?_
    obtain ⟨hv, hj, hW⟩ := hrd hR
    rw [← hws] at hW hv
    rcases ev_forms hv with ⟨_, _, _, _, _, _, et⟩ | ⟨_, _, _, _, _, _, _, et⟩ | ⟨_, _, _, _, _, et⟩ | ⟨_, _, _, _, _, et⟩ | ⟨_, _, _, _, et⟩
    all_goals rw [et, hw] at hW
    · exact k1 (List.cons.inj hW).1
    · exact k2 (List.cons.inj hW).1
    · exact k3 (List.cons.inj hW).1
    · exact k4 (List.cons.inj hW).1
    · exact k5 (List.cons.inj hW).1

end Go.Proofs.YtcfgpojogomkhaaGreatDoor
