/-
  Numbers as words, words and texts: plain laws. No condition. The program's event.Text at any event. Condition: the value has at most 100,000 bytes. The program's event.Parse walked: words of a form. Condition: the callees' contracts, as hypotheses.
-/
import Derived.Test.YtcfgpojogomkhaaGreatDoorWb
import Derived.Lib.SplitLaws
import Derived.Test.YtcfgpojogomkhaaGreatDoorVw
import Derived.Test.YtcfgpojogomkhaaGreatDoorVx
import Derived.Test.YtcfgpojogomkhaaGreatDoorVy
import Derived.Test.YtcfgpojogomkhaaGreatDoorVz
import Derived.Test.YtcfgpojogomkhaaGreatDoorWa
import Derived.Test.YtcfgpojogomkhaaGreatDoorWc
import Derived.Deep.RegionHeld
namespace Go.Proofs.YtcfgpojogomkhaaGreatDoor
open Go.RowKit

theorem parse_snoc (l : List UInt8) (c : UInt8) : ∀ acc v, Lib.parseUint10 acc l = .ok v → Lib.parseUint10 acc (l ++ [c]) = Lib.parseUint10 v [c] := by
  induction l with
  | nil =>
    intro acc v h
    have h : (Lib.NumEnd.ok acc : Lib.NumEnd Nat) = .ok v := h
    injection h with h
    rw [h]; rfl
  | cons b l ih =>
    intro acc v h
    rw [List.cons_append]
    have e1 := fun r => Lib.parseUint10.eq_2 acc b r
    rw [e1] at h ⊢
    by_cases hA : 48 ≤ b.toNat ∧ b.toNat ≤ 57
    · rw [if_pos hA] at h ⊢
      by_cases hB : 1844674407370955162 ≤ acc
      · rw [if_pos hB] at h; cases h
      · rw [if_neg hB] at h ⊢
        by_cases hC : 18446744073709551616 ≤ acc * 10 + (b.toNat - 48)
        · rw [if_pos hC] at h; cases h
        · rw [if_neg hC] at h ⊢
          exact ih _ _ h
    · rw [if_neg hA] at h; cases h
theorem dig_toNat {d : Nat} (h : d < 10) : (UInt8.ofNat (48 + d)).toNat = 48 + d := by rw [UInt8.toNat_ofNat']; omega
theorem parse_one (acc d : Nat) (hd : d < 10) (h : acc * 10 + d < 18446744073709551616) : Lib.parseUint10 acc [UInt8.ofNat (48 + d)] = .ok (acc * 10 + d) := by
  rw [Lib.parseUint10.eq_2, dig_toNat hd, if_pos (by omega), if_neg (by omega), if_neg (by omega)]
  show Lib.NumEnd.ok _ = _
  congr 1
  omega
theorem parse_dec (u : Nat) : u < 18446744073709551616 → Lib.parseUint10 0 (Lib.decDigits u) = .ok u := by
  induction u using Nat.strongRecOn with
  | _ u ih =>
    intro hu
    rw [Lib.decDigits]
    split
    · rename_i h
      have := parse_one 0 u h (by omega)
      simpa using this
    · rename_i h
      rw [parse_snoc _ _ 0 _ (ih (u / 10) (by omega) (by omega))]
      rw [parse_one (u / 10) (u % 10) (by omega) (by omega)]
      congr 1
      omega
theorem dec_dig (u : Nat) : ∀ c ∈ Lib.decDigits u, 48 ≤ c.toNat ∧ c.toNat ≤ 57 := by
  induction u using Nat.strongRecOn with
  | _ u ih =>
    rw [Lib.decDigits]
    split
    · rename_i h
      intro c hc
      rw [List.mem_singleton.1 hc, dig_toNat h]; omega
    · rename_i h
      intro c hc
      rcases List.mem_append.1 hc with hc | hc
      · exact ih (u / 10) (by omega) c hc
      · rw [List.mem_singleton.1 hc, dig_toNat (by omega)]; omega
theorem dec_ne (u : Nat) : Lib.decDigits u ≠ [] := by
  rw [Lib.decDigits]
  split <;> simp
theorem atoi_dec (u : Nat) (h : u < 9223372036854775808) : Lib.atoiAll (Lib.decDigits u) = .ok (u : Int) := by
  have hp := parse_dec u (by omega)
  have hd := dec_dig u
  have hn := dec_ne u
  cases hl : Lib.decDigits u with
  | nil => exact absurd hl hn
  | cons c r =>
    rw [hl] at hp hd
    have hc := hd c List.mem_cons_self
    have e2 : Lib.parseMag (c :: r) = .ok u := by unfold Lib.parseMag; rw [if_neg (by simp), hp]
    unfold Lib.atoiAll
    dsimp only
    rw [if_neg (by omega), e2]
    dsimp only
    rw [if_neg (by omega), if_neg (by omega), if_neg (by omega)]

theorem itS_data {n : Int} (h : 0 ≤ n) : (itS n).data.toList = Lib.decDigits n.toNat := by
  obtain ⟨u, rfl⟩ := Int.eq_ofNat_of_zero_le h
  show (Lib.itoa (u : Int)) = _
  rw [Lib.itoa_nonneg]; rfl
theorem cntB_itS {n : Int} (h : 0 ≤ n) (h2 : n ≤ 9223372036854775807) : cntB (itS n) = n := by
  have hc : cntB (itS n) = match Lib.atoiAll (itS n).data.toList with | .ok v => if v < 0 ∨ itS v ≠ itS n then -1 else v | _ => -1 := rfl
  rw [hc, itS_data h, atoi_dec n.toNat (by omega)]
  show (if ((n.toNat : Nat) : Int) < 0 ∨ itS ((n.toNat : Nat) : Int) ≠ itS n then (-1 : Int) else ((n.toNat : Nat) : Int)) = n
  rw [Int.toNat_of_nonneg h, if_neg (by simp; omega)]
theorem cntB_is (s : ByteArray) : cntB s = -1 ∨ (0 ≤ cntB s ∧ cntB s ≤ 9223372036854775807 ∧ itS (cntB s) = s) := by
  have hc : cntB s = match Lib.atoiAll s.data.toList with | .ok v => if v < 0 ∨ itS v ≠ s then -1 else v | _ => -1 := rfl
  rw [hc]
  rcases ha : Lib.atoiAll s.data.toList with v | _ | _
  · have hb := Lib.atoiAll_bounds ha
    show (if v < 0 ∨ itS v ≠ s then (-1 : Int) else v) = -1 ∨ (0 ≤ (if v < 0 ∨ itS v ≠ s then (-1 : Int) else v) ∧ (if v < 0 ∨ itS v ≠ s then (-1 : Int) else v) ≤ 9223372036854775807 ∧ itS (if v < 0 ∨ itS v ≠ s then (-1 : Int) else v) = s)
    by_cases h : v < 0 ∨ itS v ≠ s
    · rw [if_pos h]; exact .inl rfl
    · rw [if_neg h]
      exact .inr ⟨by omega, hb.2, by simpa using (not_or.1 h).2⟩
  · exact .inl rfl
  · exact .inl rfl
theorem cntB_pos {s : ByteArray} (h : 0 ≤ cntB s) : itS (cntB s) = s := by
  rcases cntB_is s with e | e
  · omega
  · exact e.2.2
theorem itS_sp {n : Int} (h : 0 ≤ n) : (32 : UInt8) ∉ (itS n).data.toList := fun hc => by
  rw [itS_data h] at hc
  have := dec_dig _ _ hc
  simp at this
theorem cntB_rng (s : ByteArray) : -1 ≤ cntB s ∧ cntB s ≤ 9223372036854775807 := by
  rcases cntB_is s with e | e <;> omega

/-! Words -/
def cutS (l : List UInt8) : List (List UInt8) := Lib.splitK [32] 0 (Lib.count l [32]) l
theorem index_sp (l : List UInt8) : Lib.index (32 :: l) [32] = 0 := by rw [Lib.index]; simp [List.isPrefixOf]
theorem index_ne {b : UInt8} (l : List UInt8) (h : b ≠ 32) : Lib.index (b :: l) [32] = if Lib.index l [32] == -1 then -1 else Lib.index l [32] + 1 := by
  have hp : ([32] : List UInt8).isPrefixOf (b :: l) = false := by simp [List.isPrefixOf, Ne.symm h]
  rw [Lib.index, hp]; simp
theorem splitK_step (k : Nat) (s : List UInt8) : Lib.splitK [32] 0 (k + 1) s = if Lib.index s [32] == -1 then [s] else s.take ((Lib.index s [32]).toNat + 0) :: Lib.splitK [32] 0 k (s.drop ((Lib.index s [32]).toNat + 1)) := rfl
theorem cut_nil : cutS [] = [[]] := by unfold cutS; rw [Lib.count_one]; rfl
theorem cut_sp (l : List UInt8) : cutS (32 :: l) = [] :: cutS l := by
  unfold cutS
  rw [Lib.count_cons_eq, Nat.add_comm, splitK_step, index_sp]
  rfl
theorem cut_ne {b : UInt8} {l : List UInt8} (h : b ≠ 32) {x : List UInt8} {t : List (List UInt8)} (hx : cutS l = x :: t) : cutS (b :: l) = (b :: x) :: t := by
  unfold cutS at hx ⊢
  rw [Lib.count_cons_ne b 32 l h]
  cases hk : Lib.count l [32] with
  | zero =>
    rw [hk] at hx
    obtain ⟨rfl, rfl⟩ := List.cons.inj (show [l] = x :: t from hx)
    rfl
  | succ k =>
    rw [hk, splitK_step] at hx
    rw [splitK_step, index_ne l h]
    by_cases hm : Lib.index l [32] = -1
    · rw [hm] at hx ⊢
      obtain ⟨rfl, rfl⟩ := List.cons.inj (show [l] = x :: t from hx)
      rfl
    · have hge := Lib.index_ge l [32]
      obtain ⟨j, hj⟩ : ∃ j : Nat, Lib.index l [32] = j := ⟨_, (Int.toNat_of_nonneg (by omega)).symm⟩
      have n1 : ¬((j : Int) == -1) = true := by simp
      have n2 : ¬(((j : Int) + 1) == -1) = true := by simp; omega
      rw [hj, if_neg n1] at hx
      rw [hj, if_neg n1, if_neg n2]
      obtain ⟨rfl, rfl⟩ := List.cons.inj hx
      rw [show ((j : Int) + 1).toNat = j + 1 by omega, show ((j : Nat) : Int).toNat = j by omega]
      rfl
theorem cut_cons (l : List UInt8) : ∃ x t, cutS l = x :: t := by
  induction l with
  | nil => exact ⟨_, _, cut_nil⟩
  | cons b l ih =>
    by_cases h : b = 32
    · subst h; exact ⟨_, _, cut_sp l⟩
    · obtain ⟨x, t, e⟩ := ih
      exact ⟨_, _, cut_ne h e⟩
theorem join_two (x y : List UInt8) (r : List (List UInt8)) : Lib.join (x :: y :: r) [32] = x ++ 32 :: Lib.join (y :: r) [32] := by
  rw [Lib.join_cons, Lib.join_cons]
  simp [Lib.joinTail]
theorem join_push (b : UInt8) (x : List UInt8) (t : List (List UInt8)) : Lib.join ((b :: x) :: t) [32] = b :: Lib.join (x :: t) [32] := by
  rw [Lib.join_cons, Lib.join_cons]; rfl
theorem cut_join (l : List UInt8) : Lib.join (cutS l) [32] = l := by
  induction l with
  | nil => rw [cut_nil]; rfl
  | cons b l ih =>
    obtain ⟨x, t, e⟩ := cut_cons l
    rw [e] at ih
    by_cases h : b = 32
    · subst h; rw [cut_sp, e, join_two, ih]; rfl
    · rw [cut_ne h e, join_push, ih]
theorem cut_no (l : List UInt8) : ∀ x ∈ cutS l, (32 : UInt8) ∉ x := by
  induction l with
  | nil => rw [cut_nil]; simp
  | cons b l ih =>
    obtain ⟨x, t, e⟩ := cut_cons l
    by_cases h : b = 32
    · subst h; rw [cut_sp]
      intro y hy
      rcases List.mem_cons.1 hy with rfl | hy
      · simp
      · exact ih y hy
    · rw [cut_ne h e]
      rw [e] at ih
      intro y hy
      rcases List.mem_cons.1 hy with rfl | hy
      · simp [Ne.symm h, ih x List.mem_cons_self]
      · exact ih y (List.mem_cons_of_mem _ hy)
theorem cut_le (l : List UInt8) : ∀ x ∈ cutS l, x.length ≤ l.length := by
  induction l with
  | nil => rw [cut_nil]; simp
  | cons b l ih =>
    obtain ⟨x, t, e⟩ := cut_cons l
    by_cases h : b = 32
    · subst h; rw [cut_sp]
      intro y hy
      rcases List.mem_cons.1 hy with rfl | hy
      · simp
      · have := ih y hy; simp; omega
    · rw [cut_ne h e]
      rw [e] at ih
      intro y hy
      rcases List.mem_cons.1 hy with rfl | hy
      · have := ih x List.mem_cons_self; simp; omega
      · have := ih y (List.mem_cons_of_mem _ hy); simp; omega
theorem cut_word (x r : List UInt8) (hx : (32 : UInt8) ∉ x) : cutS (x ++ 32 :: r) = x :: cutS r := by
  induction x with
  | nil => exact cut_sp r
  | cons b x ih =>
    have hb : b ≠ 32 := fun e => hx (by rw [e]; exact List.mem_cons_self)
    exact cut_ne hb (ih fun h => hx (List.mem_cons_of_mem _ h))
theorem cut_one (x : List UInt8) (hx : (32 : UInt8) ∉ x) : cutS x = [x] := by
  induction x with
  | nil => exact cut_nil
  | cons b x ih =>
    have hb : b ≠ 32 := fun e => hx (by rw [e]; exact List.mem_cons_self)
    exact cut_ne hb (ih fun h => hx (List.mem_cons_of_mem _ h))
theorem cut_of_join (ws : List (List UInt8)) (h0 : ws ≠ []) (h : ∀ x ∈ ws, (32 : UInt8) ∉ x) : cutS (Lib.join ws [32]) = ws := by
  match ws, h0 with
  | [x], _ => rw [Lib.join_one]; exact cut_one x (h x List.mem_cons_self)
  | x :: y :: r, _ =>
    rw [join_two, cut_word x _ (h x List.mem_cons_self), cut_of_join (y :: r) (by simp) fun z hz => h z (List.mem_cons_of_mem _ hz)]

/-- The words of a text. -/
def wordsOf (s : ByteArray) : List ByteArray := Lib.splitB ⟨#[32]⟩ 0 (Lib.countB s ⟨#[32]⟩) s
theorem wordsOf_data (s : ByteArray) : (wordsOf s).map (·.data.toList) = cutS s.data.toList := by
  unfold wordsOf
  rw [Lib.splitB_data]
  rfl
def joinS (ws : List ByteArray) : ByteArray := ⟨(Lib.join (ws.map (·.data.toList)) [32]).toArray⟩
theorem map_data_inj {a b : List ByteArray} (h : a.map (·.data.toList) = b.map (·.data.toList)) : a = b := by
  induction a generalizing b with
  | nil => cases b with
    | nil => rfl
    | cons y b => simp at h
  | cons x a ih => cases b with
    | nil => simp at h
    | cons y b =>
      simp only [List.map_cons, List.cons.injEq] at h
      rw [Go.WideShapes.bytes_inj h.1, ih h.2]
theorem words_join (ws : List ByteArray) (h0 : ws ≠ []) (h : ∀ x ∈ ws, (32 : UInt8) ∉ x.data.toList) : wordsOf (joinS ws) = ws := by
  refine map_data_inj ?_
  rw [wordsOf_data]
  show cutS (Lib.join (ws.map (·.data.toList)) [32]) = _
  rw [cut_of_join _ (by simpa using h0) (fun x hx => by obtain ⟨y, hy, rfl⟩ := List.mem_map.1 hx; exact h y hy)]
theorem join_words (s : ByteArray) : joinS (wordsOf s) = s := by
  unfold joinS
  rw [wordsOf_data, cut_join]
theorem words_le (s : ByteArray) : ∀ x ∈ wordsOf s, x.size ≤ s.size := fun x hx => by
  have h1 : x.data.toList ∈ cutS s.data.toList := by rw [← wordsOf_data]; exact List.mem_map.2 ⟨x, hx, rfl⟩
  have := cut_le _ _ h1
  rw [data_len, data_len] at this
  exact this
theorem words_cons (s : ByteArray) : ∃ x t, wordsOf s = x :: t := by
  obtain ⟨x, t, e⟩ := cut_cons s.data.toList
  rw [← wordsOf_data] at e
  cases h : wordsOf s with
  | nil => rw [h] at e; simp at e
  | cons y r => exact ⟨y, r, rfl⟩

/-! Dates -/
theorem DText.unique {l : List UInt8} {a b : Nat} (h : DText l a) (h' : DText l b) : a = b := by
  obtain ⟨h1, y, m, d, h2, h3⟩ := h
  obtain ⟨h1', y', m', d', h2', h3'⟩ := h'
  have q1 := h2.small h1
  have q2 := h2'.small h1'
  have e : dateB y m d = dateB y' m' d' := h3.symm.trans h3'
  unfold dateB at e
  obtain ⟨e1, e5⟩ := List.append_inj e (by simp [figB_len])
  obtain ⟨e1, e4⟩ := List.append_inj e1 (by simp [figB_len])
  obtain ⟨e1, e3⟩ := List.append_inj e1 (by simp [figB_len])
  obtain ⟨e1, e2⟩ := List.append_inj e1 (by simp [figB_len])
  have f1 := congrArg numV e1
  have f2 := congrArg numV e3
  have f3 := congrArg numV e5
  simp only [numV_figB] at f1 f2 f3
  obtain ⟨a1, a2, a3, a4, a5, a6⟩ := h2
  obtain ⟨b1, b2, b3, b4, b5, b6⟩ := h2'
  obtain rfl : y = y' := by omega
  obtain rfl : m = m' := by omega
  obtain rfl : d = d' := by omega
  omega
theorem dateB_sp (y m d : Nat) : (32 : UInt8) ∉ dateB y m d := fun h => by
  unfold dateB at h
  simp only [List.mem_append, List.mem_singleton] at h
  rcases h with (((h | h) | h) | h) | h
  · have := figB_dig _ _ _ h; simp at this
  · simp at h
  · have := figB_dig _ _ _ h; simp at this
  · simp at h
  · have := figB_dig _ _ _ h; simp at this
open Classical in
/-- The day of a word; -1 for none. -/
noncomputable def dtB (s : ByteArray) : Int := if h : ∃ day, DText s.data.toList day then ((Classical.choose h : Nat) : Int) else -1
theorem dtB_is {s : ByteArray} {day : Nat} (h : DText s.data.toList day) : dtB s = (day : Int) := by
  have hx : ∃ day, DText s.data.toList day := ⟨day, h⟩
  unfold dtB
  rw [dif_pos hx, (Classical.choose_spec hx).unique h]
theorem dtB_none {s : ByteArray} (h : ∀ day, ¬DText s.data.toList day) : dtB s = -1 := by
  unfold dtB
  rw [dif_neg (fun ⟨d, hd⟩ => h d hd)]
theorem dtB_cases (s : ByteArray) : (∃ day : Nat, DText s.data.toList day ∧ dtB s = (day : Int)) ∨ dtB s = -1 := by
  by_cases h : ∃ day, DText s.data.toList day
  · obtain ⟨day, hd⟩ := h
    exact .inl ⟨day, hd, dtB_is hd⟩
  · exact .inr (dtB_none fun d hd => h ⟨d, hd⟩)
open Classical in
/-- The text of a day. -/
noncomputable def dayS (n : Int) : ByteArray := if h : ∃ l : List UInt8, DText l n.toNat then ⟨(Classical.choose h).toArray⟩ else ⟨#[]⟩
theorem dayS_is {n : Int} {y m d : Nat} (h0 : 0 ≤ n) (h1 : n ≤ 99999) (h : DateIs n.toNat y m d) : dayS n = ⟨(dateB y m d).toArray⟩ := by
  have hx : ∃ l : List UInt8, DText l n.toNat := ⟨_, by omega, y, m, d, h, rfl⟩
  unfold dayS
  rw [dif_pos hx]
  obtain ⟨_, y', m', d', h2, h3⟩ := Classical.choose_spec hx
  obtain ⟨rfl, rfl, rfl⟩ := h.unique h2
  rw [h3]
theorem dtB_dayS {n : Int} (h0 : 0 ≤ n) (h1 : n ≤ 99999) : dtB (dayS n) = n := by
  obtain ⟨y, m, d, h⟩ := date_exists n.toNat
  rw [dayS_is h0 h1 h]
  rw [dtB_is (day := n.toNat) ⟨by omega, y, m, d, h, rfl⟩]
  omega
theorem dayS_dtB {s : ByteArray} (h : 0 ≤ dtB s) : dayS (dtB s) = s ∧ dtB s ≤ 99999 := by
  rcases dtB_cases s with ⟨day, hd, e⟩ | e
  · obtain ⟨h1, y, m, d, h2, h3⟩ := hd
    rw [e]
    refine ⟨?_, by omega⟩
    rw [dayS_is (by omega) (by omega) (by simpa using h2)]
    exact Go.WideShapes.bytes_inj (by simp [h3])
  · omega
theorem dayS_sp {n : Int} (h0 : 0 ≤ n) (h1 : n ≤ 99999) : (32 : UInt8) ∉ (dayS n).data.toList := by
  obtain ⟨y, m, d, h⟩ := date_exists n.toNat
  rw [dayS_is h0 h1 h]
  exact dateB_sp y m d

end Go.Proofs.YtcfgpojogomkhaaGreatDoor

namespace Go.Proofs.YtcfgpojogomkhaaGreatDoor
open Go.RowKit

def evV (x : Ev) : Value := .agg #[.int .u8 x.kind, .int .i64 x.id, .int .i64 x.entry, .int .i64 x.target, .int .i64 x.date, .string x.party, .string x.name, .string x.value, .bool x.first]
def sideS (b : Bool) : ByteArray := if b = true then ⟨#[121, 101, 115]⟩ else ⟨#[110, 111]⟩
theorem side_any (b : Bool) (w : World) : Calls Tryz.prog 24 #[.bool b] w (RetS w (sideS b)) := by
  cases b
  · exact side_no w
  · exact side_yes w
/-- The words of an event. -/
noncomputable def textW (x : Ev) : List ByteArray :=
  if x.kind = 1 then [⟨#[102, 105, 120]⟩, itS x.id, itS x.entry, x.name, dayS x.date, x.value]
  else if x.kind = 2 then [⟨#[99, 104, 111, 105, 99, 101]⟩, itS x.id, itS x.entry, x.party, x.name, dayS x.date, sideS x.first]
  else if x.kind = 3 then [⟨#[118, 97, 108, 117, 101]⟩, itS x.id, itS x.entry, itS x.target, x.value]
  else if x.kind = 4 then [⟨#[115, 105, 100, 101]⟩, itS x.id, itS x.entry, itS x.target, sideS x.first]
  else [⟨#[99, 97, 110, 99, 101, 108]⟩, itS x.id, itS x.entry, itS x.target]

theorem dec_len (k : Nat) : ∀ u, u < 10 ^ (k + 1) → (Lib.decDigits u).length ≤ k + 1 := by
  induction k with
  | zero =>
    intro u hu
    rw [Lib.decDigits, dif_pos (by simpa using hu)]; simp
  | succ k ih =>
    intro u hu
    rw [Lib.decDigits]
    split
    · simp
    · have := ih (u / 10) (by rw [Nat.pow_succ] at hu; omega)
      simp; omega
theorem itS_len {n : Int} (h : 0 ≤ n) (h2 : n ≤ 1125899906842624) : (itS n).data.toList.length ≤ 16 := by
  rw [itS_data h]
  exact dec_len 15 _ (by omega)
theorem join_le (k : Nat) (l : List (List UInt8)) (h : ∀ x ∈ l, x.length ≤ k) : (Lib.join l [32]).length ≤ l.length * (k + 1) := by
  match l with
  | [] => simp [Lib.join_nil]
  | [x] =>
    rw [Lib.join_one]
    have := h x List.mem_cons_self
    simp; omega
  | x :: y :: r =>
    have h1 := h x List.mem_cons_self
    have h2 := join_le k (y :: r) fun z hz => h z (List.mem_cons_of_mem _ hz)
    rw [join_two]
    simp only [List.length_append, List.length_cons] at h2 ⊢
    have : (r.length + 1 + 1) * (k + 1) = (r.length + 1) * (k + 1) + (k + 1) := by rw [Nat.add_mul _ 1, Nat.one_mul]
    omega

/-- What a valid event is made of. -/
structure ValE (x : Ev) : Prop where
  id1 : 1 ≤ x.id
  id2 : x.id ≤ 1073741824
  en1 : 0 ≤ x.entry
  en2 : x.entry ≤ 1125899906842624
  da1 : 0 ≤ x.date
  da2 : x.date ≤ 99999
  ta1 : 0 ≤ x.target
  ta2 : x.target ≤ 1073741824
theorem inB_iff {n a b : Int} (h : inB n a b = true) : a ≤ n ∧ n ≤ b := inB_le h
theorem valB_kind {x : Ev} (h : valB x = true) : x.kind = 1 ∨ x.kind = 2 ∨ x.kind = 3 ∨ x.kind = 4 ∨ x.kind = 5 := by
  unfold valB at h
  by_cases k1 : x.kind = 1
  · exact .inl k1
  by_cases k2 : x.kind = 2
  · exact .inr (.inl k2)
  by_cases k3 : x.kind = 3
  · exact .inr (.inr (.inl k3))
  by_cases k4 : x.kind = 4
  · exact .inr (.inr (.inr (.inl k4)))
  by_cases k5 : x.kind = 5
  · exact .inr (.inr (.inr (.inr k5)))
  rw [if_neg k1, if_neg k2, if_neg k3, if_neg k4, if_neg k5] at h
  simp at h
theorem valB_1 {x : Ev} (k : x.kind = 1) : valB x = (inB x.id 1 1073741824 && (inB x.entry 0 1125899906842624 && (nmB x.name.data.toList && inB x.date 0 99999 && vlB x.value && (x.target == 0) && x.party.toList.isEmpty && !x.first))) := by
  unfold valB; rw [if_pos k]
theorem valB_2 {x : Ev} (k : x.kind = 2) : valB x = (inB x.id 1 1073741824 && (inB x.entry 0 1125899906842624 && (nmB x.party.data.toList && nmB x.name.data.toList && inB x.date 0 99999 && (x.target == 0) && x.value.toList.isEmpty))) := by
  unfold valB; rw [if_neg (by omega), if_pos k]
theorem valB_3 {x : Ev} (k : x.kind = 3) : valB x = (inB x.id 1 1073741824 && (inB x.entry 0 1125899906842624 && (inB x.target 1 (x.id - 1) && vlB x.value && (x.date == 0) && x.party.toList.isEmpty && x.name.toList.isEmpty && !x.first))) := by
  unfold valB; rw [if_neg (by omega), if_neg (by omega), if_pos k]
theorem valB_4 {x : Ev} (k : x.kind = 4) : valB x = (inB x.id 1 1073741824 && (inB x.entry 0 1125899906842624 && (inB x.target 1 (x.id - 1) && (x.date == 0) && x.party.toList.isEmpty && x.name.toList.isEmpty && x.value.toList.isEmpty))) := by
  unfold valB; rw [if_neg (by omega), if_neg (by omega), if_neg (by omega), if_pos k]
theorem valB_5 {x : Ev} (k : x.kind = 5) : valB x = (inB x.id 1 1073741824 && (inB x.entry 0 1125899906842624 && (inB x.target 1 (x.id - 1) && (x.date == 0) && x.party.toList.isEmpty && x.name.toList.isEmpty && x.value.toList.isEmpty && !x.first))) := by
  unfold valB; rw [if_neg (by omega), if_neg (by omega), if_neg (by omega), if_neg (by omega), if_pos k]
theorem valE {x : Ev} (h : valB x = true) : ValE x := by
  rcases valB_kind h with k | k | k | k | k
  · rw [valB_1 k] at h
    simp only [Bool.and_eq_true, beq_iff_eq] at h
    obtain ⟨h1, h2, ⟨⟨⟨⟨_, h3⟩, _⟩, h4⟩, _⟩, _⟩ := h
    have a := inB_le h1; have b := inB_le h2; have c := inB_le h3
    exact ⟨a.1, a.2, b.1, b.2, c.1, c.2, by omega, by omega⟩
  · rw [valB_2 k] at h
    simp only [Bool.and_eq_true, beq_iff_eq] at h
    obtain ⟨h1, h2, ⟨⟨_, h3⟩, h4⟩, _⟩ := h
    have a := inB_le h1; have b := inB_le h2; have c := inB_le h3
    exact ⟨a.1, a.2, b.1, b.2, c.1, c.2, by omega, by omega⟩
  · rw [valB_3 k] at h
    simp only [Bool.and_eq_true, beq_iff_eq] at h
    obtain ⟨h1, h2, ⟨⟨⟨⟨h4, _⟩, h3⟩, _⟩, _⟩, _⟩ := h
    have a := inB_le h1; have b := inB_le h2; have c := inB_le h4
    exact ⟨a.1, a.2, b.1, b.2, by omega, by omega, by omega, by omega⟩
  · rw [valB_4 k] at h
    simp only [Bool.and_eq_true, beq_iff_eq] at h
    obtain ⟨h1, h2, ⟨⟨⟨h4, h3⟩, _⟩, _⟩, _⟩ := h
    have a := inB_le h1; have b := inB_le h2; have c := inB_le h4
    exact ⟨a.1, a.2, b.1, b.2, by omega, by omega, by omega, by omega⟩
  · rw [valB_5 k] at h
    simp only [Bool.and_eq_true, beq_iff_eq] at h
    obtain ⟨h1, h2, ⟨⟨⟨⟨h4, h3⟩, _⟩, _⟩, _⟩, _⟩ := h
    have a := inB_le h1; have b := inB_le h2; have c := inB_le h4
    exact ⟨a.1, a.2, b.1, b.2, by omega, by omega, by omega, by omega⟩
theorem nmB_size {l : List UInt8} (h : nmB l = true) : l.length ≤ 40 := by
  unfold nmB at h
  simp only [Bool.and_eq_true, decide_eq_true_eq] at h
  omega

theorem check_ct (x : Ev) (w : World) (hs : x.value.size ≤ 100000) : Ct w 16 #[evV x] (.int .i64 (if valB x = true then 0 else 8)) := fun W _ => check_ev x W hs
theorem dtext_ct (n : Int) (w : World) (h0 : 0 ≤ n) (h1 : n ≤ 99999) : Ct w 22 #[.int .i64 n] (.tuple #[.string (dayS n), .int .i64 0]) := fun W _ => by
  obtain ⟨y, m, d, h⟩ := date_exists n.toNat
  have := dtext_ok n.toNat y m d W (by omega) h
  rw [dayS_is h0 h1 h]
  rw [Int.toNat_of_nonneg h0] at this
  exact this

set_option maxHeartbeats 2000000 in
set_option maxRecDepth 100000 in
theorem text_no (x : Ev) (w : World) (hs : x.value.size ≤ 100000) (hv : valB x = false) : Calls Tryz.prog 10 #[evV x] w (TPost w ⟨#[]⟩ 8) := by
  have HC : Hid (Ct w 16 #[evV x] (.int .i64 8)) := by
    have := check_ct x w hs
    rw [hv] at this
    exact this
  obtain ⟨K, i1, e1, t1, d1, p1, n1, v1, f1⟩ := x
  unfold evV at HC ⊢
  dsimp only at HC ⊢
  clear hv hs
  go_enter Tryz.func10, Tryz.ntmps10
  go_wp2_with fail
  refine (HC.out.use (own_below _ _)).mono ?_
  rintro e w2 ⟨rfl, b2⟩
  have B2 : Hid (Below w.heap.size w w2) := (own_below _ _).trans (b2.mono (by simp))
  clear b2
  go_wp2_with fail
  go_ret2
  exact ⟨rfl, B2.out⟩

theorem text_yes (x : Ev) (w : World) (h : Env w) (hs : x.value.size ≤ 100000) (hv : valB x = true) : Calls Tryz.prog 10 #[evV x] w (TPost w (joinS (textW x)) 0) := by
  have hV := valE hv
  have HC : Hid (Ct w 16 #[evV x] (.int .i64 0)) := by
    have := check_ct x w hs
    rw [hv] at this
    exact this
  have HD := Lib.hid (dtext_ct x.date w hV.da1 hV.da2)
  have HT := Lib.hid (itoa_ct h x.target (by have := hV.ta1; omega) (by have := hV.ta2; omega))
  have HI := Lib.hid (itoa_ct h x.id (by have := hV.id1; omega) (by have := hV.id2; omega))
  have HE := Lib.hid (itoa_ct h x.entry (by have := hV.en1; omega) (by have := hV.en2; omega))
  have HS := Lib.hid (fun W => side_any x.first W)
  have hk := valB_kind hv
  have l1 := itS_len (n := x.target) hV.ta1 (by have := hV.ta2; omega)
  have l2 := itS_len (n := x.id) (by have := hV.id1; omega) (by have := hV.id2; omega)
  have l3 := itS_len (n := x.entry) hV.en1 hV.en2
  have l4 : (dayS x.date).data.toList.length ≤ 10 := by
    obtain ⟨y, m, d, hd⟩ := date_exists x.date.toNat
    rw [dayS_is hV.da1 hV.da2 hd]
    simp [dateB_len]
  have l5 : x.value.data.toList.length ≤ 100000 := by rw [data_len]; exact hs
  have l6 : (sideS x.first).data.toList.length ≤ 3 := by cases x.first <;> decide
  have l7 : (x.kind = 1 ∨ x.kind = 2) → x.name.data.toList.length ≤ 40 := fun hk => by
    rcases hk with k | k
    · rw [valB_1 k] at hv
      simp only [Bool.and_eq_true] at hv
      exact nmB_size hv.2.2.1.1.1.1.1
    · rw [valB_2 k] at hv
      simp only [Bool.and_eq_true] at hv
      exact nmB_size hv.2.2.1.1.1.2
  have l8 : x.kind = 2 → x.party.data.toList.length ≤ 40 := fun k => by
    rw [valB_2 k] at hv
    simp only [Bool.and_eq_true] at hv
    exact nmB_size hv.2.2.1.1.1.1
  have hlen : (Lib.join ((textW x).map (·.data.toList)) [32]).length ≤ 140737488355328 := by
    refine Nat.le_trans (join_le 100000 _ ?_) ?_
    · intro y hy
      obtain ⟨z, hz, rfl⟩ := List.mem_map.1 hy
      unfold textW at hz
      rcases hk with k | k | k | k | k <;> simp [k] at hz l7 l8 <;> rcases hz with rfl | rfl | rfl | rfl | rfl | rfl | rfl <;> first | omega | (simp; done) | (simp; omega)
    · have : ((textW x).map (·.data.toList)).length ≤ 7 := by
        unfold textW
        rcases hk with k | k | k | k | k <;> simp [k]
      calc _ ≤ 7 * 100001 := Nat.mul_le_mul_right _ this
        _ ≤ _ := by omega
  have e : joinS (textW x) = ⟨(Lib.join ((textW x).map (·.data.toList)) [32]).toArray⟩ := rfl
  rw [e]
  unfold textW at hlen ⊢
  obtain ⟨K, i1, e1, t1, d1, p1, n1, v1, f1⟩ := x
  unfold evV at HC ⊢
  dsimp only at HC HD HT HI HE HS hk hlen ⊢
  clear hv hV l1 l2 l3 l4 l5 l6 l7 l8 e
  rcases hk with rfl | rfl | rfl | rfl | rfl
  · exact text_1 i1 e1 t1 d1 p1 n1 v1 f1 w _ _ _ _ HC HD HT HI HE hlen
  · exact text_2 i1 e1 t1 d1 p1 n1 v1 f1 w _ _ _ _ _ HC HD HT HI HE HS hlen
  · exact text_3 i1 e1 t1 d1 p1 n1 v1 f1 w _ _ _ _ HC HD HT HI HE hlen
  · exact text_4 i1 e1 t1 d1 p1 n1 v1 f1 w _ _ _ _ _ HC HD HT HI HE HS hlen
  · exact text_5 i1 e1 t1 d1 p1 n1 v1 f1 w _ _ _ _ HC HD HT HI HE hlen

end Go.Proofs.YtcfgpojogomkhaaGreatDoor

namespace Go.Proofs.YtcfgpojogomkhaaGreatDoor
open Go.RowKit

def yesB : ByteArray := ⟨#[121, 101, 115]⟩
def noB : ByteArray := ⟨#[110, 111]⟩
def evO (x : Ev) : Obj := .cells #[.int .u8 x.kind, .int .i64 x.id, .int .i64 x.entry, .int .i64 x.target, .int .i64 x.date, .string x.party, .string x.name, .string x.value, .bool x.first] 24
/-- What the call of date.Parse hands back: the day or an error. -/
def DpP (W : World) (D : Int) (e : Ending) (w' : World) : Prop := ((e = .returned (.tuple #[.int .i64 D, .int .i64 0])) ∨ (D = -1 ∧ ∃ q : Int, (1 ≤ q ∧ q ≤ 100) ∧ e = .returned (.tuple #[.int .i64 0, .int .i64 q]))) ∧ Below W.heap.size W w'
def DpC (w : World) (x : ByteArray) (D : Int) : Prop := ∀ W : World, Below w.heap.size w W → Calls Tryz.prog 33 #[.string x] W (DpP W D)
/-- What a round makes of an event. -/
inductive RoundOk (w : World) (c : Nat) (x : ByteArray) (a b : Ev) : Prop
  | name (hc : c = 110) (h : b = { a with name := x })
  | party (hc : c = 112) (h : b = { a with party := x })
  | date (hc : c = 100) (D : Int) (hd : Hid (DpC w x D)) (h : b = { a with date := D })
  | value (hc : c = 118) (h : b = { a with value := x })
  | target (hc : c = 116) (v : Int) (hv : Hid (Ct w 32 #[.string x] (.int .i64 v))) (h : b = { a with target := v })
  | yes (hc : c = 115) (hx : x = yesB) (h : b = { a with first := true })
  | no (hc : c = 115) (hx : x = noB) (h : b = { a with first := false })
  | bad (hc : c = 115) (hx : x ≠ yesB) (hx2 : x ≠ noB)
def GoodW (sw : ByteArray) (ws : List ByteArray) (j : Nat) : Prop := ∀ i x c, i < j → ws[3 + i]? = some x → sw.data.toList[i]? = some c → c.toNat = 115 → x = yesB ∨ x = noB
def PaP (w : World) (ev : Ev) (f : Int) (G : Prop) (e : Ending) (w' : World) : Prop :=
  Below w.heap.size w w' ∧ ((¬G ∧ e = .returned (.tuple #[zEv, .int .i64 12])) ∨ (G ∧ f = 0 ∧ e = .returned (.tuple #[evV ev, .int .i64 0])) ∨ (G ∧ f ≠ 0 ∧ e = .returned (.tuple #[zEv, .int .i64 12])))
/-- The loop: the event so far. -/
def PaR (wb : World) (q : Nat) (E : Nat → Ev) (sw : ByteArray) (ws : List ByteArray) (m : Nat) (v : Value) (W : World) : Prop :=
  ∃ j : Nat, j ≤ m ∧ v = .int .i64 (j : Int) ∧ W.heap[q]? = some (evO (E j)) ∧ Below wb.heap.size wb W ∧ GoodW sw ws j

theorem GoodW.next {sw : ByteArray} {ws : List ByteArray} {j : Nat} {x : ByteArray} (h : GoodW sw ws j) (hj : j < sw.size) (hx : ws[3 + j]? = some x) (hg : sw[j].toNat = 115 → x = yesB ∨ x = noB) : GoodW sw ws (j + 1) := fun i y c hi hy hc h115 => by
  by_cases e : i = j
  · subst e
    rw [hx] at hy
    obtain rfl := Option.some.inj hy
    rw [Lib.data_getElem? sw i hj] at hc
    obtain rfl := Option.some.inj hc
    exact hg h115
  · exact h i y c (by omega) hy hc h115
theorem objHere (V : World) (O : Obj) : (V.alloc O).heap[V.heap.size]? = some O := by
  show (V.heap.push O)[V.heap.size]? = some O
  rw [Array.getElem?_push, if_pos rfl]
theorem objNew {wb V wf : World} {O : Obj} (hb : Below wb.heap.size wb V) (bf : Below (V.alloc O).heap.size (V.alloc O) wf) : wb.heap.size ≤ V.heap.size ∧ wf.heap[V.heap.size]? = some O :=
  ⟨hb.size, by rw [bf.block _ (by simp)]; exact objHere _ _⟩
theorem objNewD {wb wf : World} {O : Obj} (bf : Below ((wb.alloc O).drew).heap.size ((wb.alloc O).drew) wf) : wb.heap.size ≤ wb.heap.size ∧ wf.heap[wb.heap.size]? = some O :=
  objNew (V := wb) (Below.refl _ _) ⟨bf.os, bf.tape, bf.output, bf.size, bf.block⟩
theorem objNext {B : Nat} {V wf : World} {O : Obj} {q : Nat} (h : B ≤ q ∧ V.heap[q]? = some O) (bf : Below V.heap.size V wf) : B ≤ q ∧ wf.heap[q]? = some O :=
  ⟨h.1, by rw [bf.block _ (Array.getElem?_eq_some_iff.1 h.2).1]; exact h.2⟩
theorem objLt {V : World} {O : Obj} {q : Nat} (h : V.heap[q]? = some O) : q < V.heap.size := (Array.getElem?_eq_some_iff.1 h).1

end Go.Proofs.YtcfgpojogomkhaaGreatDoor
