/-
  The reference's cut: the words of a text. Condition: at most 1,000,000 bytes.
-/
import Derived.Test.YtcfgpojogomkhaaGreatDoorWd
namespace Go.Proofs.YtcfgpojogomkhaaGreatDoor
open Go.RowKit

theorem extract_data (s : ByteArray) (a b : Nat) : (s.extract a b).data.toList = (s.data.toList.drop a).take (b - a) := by
  rw [ByteArray.data_extract, Array.toList_extract, List.extract_eq_take_drop]
/-- The words so far. -/
def CutI (l : List UInt8) (ws : List ByteArray) (a i : Nat) : Prop :=
  ws.length ≤ i ∧ (i ≤ l.length → a ≤ i ∧ (32 : UInt8) ∉ (l.drop a).take (i - a) ∧ cutS l = ws.map (·.data.toList) ++ cutS (l.drop a)) ∧ (i = l.length + 1 → cutS l = ws.map (·.data.toList))
theorem cutI_start (l : List UInt8) : CutI l [] 0 0 := ⟨Nat.le_refl _, fun _ => ⟨Nat.le_refl _, by simp, by simp⟩, fun h => by omega⟩
theorem drop_split (l : List UInt8) {a i : Nat} (h : a ≤ i) : l.drop a = (l.drop a).take (i - a) ++ l.drop i := by
  have := (List.take_append_drop (i - a) (l.drop a)).symm
  rwa [List.drop_drop, show a + (i - a) = i by omega] at this
theorem drop_cons {l : List UInt8} {i : Nat} {c : UInt8} (h : l[i]? = some c) : l.drop i = c :: l.drop (i + 1) := by
  obtain ⟨hi, e⟩ := List.getElem?_eq_some_iff.1 h
  rw [List.drop_eq_getElem_cons hi, e]
theorem cutI_skip {l : List UInt8} {ws : List ByteArray} {a i : Nat} {c : UInt8} (h : CutI l ws a i) (hc : l[i]? = some c) (hne : c ≠ 32) : CutI l ws a (i + 1) := by
  have hi := (List.getElem?_eq_some_iff.1 hc).1
  obtain ⟨h1, h2, h3⟩ := h
  obtain ⟨k1, k2, k3⟩ := h2 (by omega)
  refine ⟨by omega, fun _ => ⟨by omega, ?_, k3⟩, fun h => by omega⟩
  have e : (l.drop a).take (i + 1 - a) = (l.drop a).take (i - a) ++ [c] := by
    rw [show i + 1 - a = (i - a) + 1 by omega, List.take_add_one, List.getElem?_drop, show a + (i - a) = i by omega, hc]; rfl
  rw [e]
  intro hm
  rcases List.mem_append.1 hm with hm | hm
  · exact k2 hm
  · exact hne (List.mem_singleton.1 hm).symm
theorem cutI_word {l : List UInt8} {ws : List ByteArray} {a i : Nat} {x : ByteArray} (h : CutI l ws a i) (hc : l[i]? = some 32) (hx : x.data.toList = (l.drop a).take (i - a)) : CutI l (ws ++ [x]) (i + 1) (i + 1) := by
  have hi := (List.getElem?_eq_some_iff.1 hc).1
  obtain ⟨h1, h2, h3⟩ := h
  obtain ⟨k1, k2, k3⟩ := h2 (by omega)
  refine ⟨by simp; omega, fun _ => ⟨Nat.le_refl _, by simp, ?_⟩, fun h => by omega⟩
  rw [k3, drop_split l k1, drop_cons hc, cut_word _ _ k2, List.map_append, ← hx]
  simp
theorem cutI_end {l : List UInt8} {ws : List ByteArray} {a : Nat} {x : ByteArray} (h : CutI l ws a l.length) (hx : x.data.toList = (l.drop a).take (l.length - a)) : CutI l (ws ++ [x]) (l.length + 1) (l.length + 1) := by
  obtain ⟨h1, h2, h3⟩ := h
  obtain ⟨k1, k2, k3⟩ := h2 (Nat.le_refl _)
  refine ⟨by simp; omega, fun h => by omega, fun _ => ?_⟩
  have e : l.drop a = x.data.toList := by rw [hx, List.take_of_length_le (by rw [List.length_drop]; exact Nat.le_refl _)]
  rw [hx] at e
  rw [k3, e, cut_one _ k2, List.map_append, ← hx]
  simp

theorem infoString : (Tryz.prog.info? 9).map (fun i => (i.zero, i.size, i.bytes)) = some (some (.string ⟨#[]⟩), 1, 16) := by kernel_rfl
def CutR (w : World) (s : ByteArray) (ov av iv : Value) (wr : World) : Prop :=
  ∃ (ws : List ByteArray) (a i : Nat), av = .int .i64 (a : Int) ∧ iv = .int .i64 (i : Int) ∧ i ≤ s.size + 1 ∧ wr.ownsRow w.heap.size 9 1 ov ws.length (ws.map Value.string) ∧ Below w.heap.size w wr ∧ CutI s.data.toList ws a i
def CutP (w : World) (ws : List ByteArray) (e : Ending) (w' : World) : Prop :=
  ∃ r c : Nat, e = .returned (.slice (some ⟨r, 0, none⟩) ws.length c) ∧ w.heap.size ≤ r ∧ RowAt w' r 9 (ws.map Value.string) ∧ Below w.heap.size w w'

set_option maxHeartbeats 2000000 in
set_option maxRecDepth 100000 in
theorem cut_any (s : ByteArray) (w : World) (hs : s.size ≤ 1000000) : Calls Tryz.prog 34 #[.string s] w (CutP w (wordsOf s)) := by
  obtain ⟨i0, hi, hz0, hz1, hz2⟩ := info_parts infoString
  have HST : Hid (CutR w s (.slice none 0 0) (.int .i64 0) (.int .i64 0) w) := ⟨[], 0, 0, rfl, rfl, Nat.zero_le _, World.ownsRow_nil _ _ _ _, Below.refl _ _, cutI_start _⟩
  have HS := Lib.hid hs
  go_enter Tryz.func34, Tryz.ntmps34
  go_wp2_with fail
  go_loopw [3, 4, 5] (fun o a i wr => CutR w s o a i wr) (fun _ _ i _ => s.size + 1 - (intOf i).toNat)
  case atStart => exact HST.out
  case round =>
    obtain ⟨w1, rfl⟩ : ∃ w1 : World, w1 = wr := ⟨_, rfl⟩
    obtain ⟨ws, a, i, rfl, rfl, hin, ho, hb, hI⟩ := hrel
    have HB := Lib.hid hb
    have HI := Lib.hid hI
    have HO := Lib.hid ho
    clear hb hI HST
    by_cases hle : i ≤ s.size
    · have hai : a ≤ i := (HI.out.2.1 (by rw [data_len]; exact hle)).1
      have hwl : ws.length ≤ i := HI.out.1
      have HX : Hid ((s.extract a i).data.toList = (s.data.toList.drop a).take (i - a)) := extract_data s a i
      have HNX : Hid ((s.data.toList[i]? = some 32 ∨ i = s.size) → ∀ (wr' : World) (o' : Value), wr'.ownsRow w.heap.size 9 1 o' (ws.length + 1) ((ws.map Value.string) ++ [.string (s.extract a i)]) → Below w.heap.size w wr' → CutR w s o' (.int .i64 ((i : Int) + 1)) (.int .i64 ((i : Int) + 1)) wr') := fun hc wr' o' h1 h2 => by
        refine ⟨ws ++ [s.extract a i], i + 1, i + 1, rfl, rfl, by omega, ?_, h2, ?_⟩
        · rw [List.map_append, List.length_append]; exact h1
        · rcases hc with hc | hc
          · exact cutI_word HI.out hc HX.out
          · have e : i = s.data.toList.length := by rw [data_len]; exact hc
            rw [e] at HX ⊢
            exact cutI_end (e ▸ HI.out) HX.out
      by_cases hlt : i < s.size
      · have hc : s.data.toList[i]? = some s[i] := Lib.data_getElem? s i hlt
        have ti : ((i : Int) == (s.size : Int)) = false := by simp; omega
        by_cases h32 : s[i].toNat = 32
        · have h32' : s[i] = 32 := UInt8.toNat_inj.1 h32
          have NX := Lib.hid (HNX.out (.inl (by rw [hc, h32'])))
          clear HNX hc h32' HX HI
          go_wp2_with (at_builtin; refine wpList_append1 _ rfl (.tmp 22) (.tmp 27) 52 rfl w.heap.size 9 i0 (.string ⟨#[]⟩) 16 Tryz.underlying52 hi hz0 hz1 hz2 rfl _ _ _ rfl (HO.out.alloc _) ⟨w1.heap.size, 0, none⟩ 1 (.string (s.extract a i)) rfl ?c1 rfl ?c3 ?c4 ?c5 ?_)
          case c1 => simp
          case c3 => have := HS.out; unfold maxLen; omega
          case c4 => have := HS.out; omega
          case c5 => have := HB.out.size; simp; omega
          intro v2 w2 ho2 hg2 hne2 hpl2
          have n2 : Below w.heap.size w w2 := (HB.out.alloc HB.out.size _).grown hg2 (by have := HB.out.size; simp; omega) (fun k hk => (HO.out.lt k hk).1)
          have NX2 := Lib.hid (NX.out w2 v2 ho2 n2)
          clear ho2 n2 hg2 hne2 hpl2 NX ho HO
          go_wp2_with fail
          go_roundw
          case rel => exact NX2.out
          case measure => simp [intOf]; omega
        · have NX : Hid (∀ o, w1.ownsRow w.heap.size 9 1 o ws.length (ws.map Value.string) → CutR w s o (.int .i64 (a : Int)) (.int .i64 ((i : Int) + 1)) w1) := fun o h => ⟨ws, a, i + 1, rfl, rfl, by omega, h, HB.out, cutI_skip HI.out hc (fun e => h32 (by rw [e]; rfl))⟩
          clear HNX hc HX HI ho
          go_wp2_with fail
          go_roundw
          case rel => exact NX.out _ HO.out
          case measure => simp [intOf]; omega
      · obtain rfl : i = s.size := by omega
        have NX := Lib.hid (HNX.out (.inr rfl))
        clear HNX HX HI
        go_wp2_with (at_builtin; refine wpList_append1 _ rfl (.tmp 22) (.tmp 27) 52 rfl w.heap.size 9 i0 (.string ⟨#[]⟩) 16 Tryz.underlying52 hi hz0 hz1 hz2 rfl _ _ _ rfl (HO.out.alloc _) ⟨w1.heap.size, 0, none⟩ 1 (.string (s.extract a s.size)) rfl ?c1 rfl ?c3 ?c4 ?c5 ?_)
        case c1 => simp
        case c3 => have := HS.out; unfold maxLen; omega
        case c4 => have := HS.out; omega
        case c5 => have := HB.out.size; simp; omega
        intro v2 w2 ho2 hg2 hne2 hpl2
        have n2 : Below w.heap.size w w2 := (HB.out.alloc HB.out.size _).grown hg2 (by have := HB.out.size; simp; omega) (fun k hk => (HO.out.lt k hk).1)
        have NX2 := Lib.hid (NX.out w2 v2 ho2 n2)
        clear ho2 n2 hg2 hne2 hpl2 NX ho HO
        go_wp2_with fail
        go_roundw
        case rel => exact NX2.out
        case measure => simp [intOf]
    · obtain rfl : i = s.size + 1 := by omega
      have hw : ws = wordsOf s := map_data_inj (by rw [wordsOf_data, HI.out.2.2 (by rw [data_len])])
      have HW := Lib.hid hw
      have hne : ws ≠ [] := by
        obtain ⟨x, t, e⟩ := words_cons s
        rw [hw, e]; simp
      have HNE := Lib.hid hne
      clear hw hne HI
      go_wp2_with fail
      go_ret
      rcases rowAt_of_owns HO.out with ⟨rfl, hz, _⟩ | ⟨g, c, rfl, hg, hc, _, _, hr⟩
      · exact absurd (List.eq_nil_of_length_eq_zero (by simpa using hz)) HNE.out
      · rw [← HW.out]
        exact ⟨g, c, rfl, hg, hr, HB.out⟩

end Go.Proofs.YtcfgpojogomkhaaGreatDoor
