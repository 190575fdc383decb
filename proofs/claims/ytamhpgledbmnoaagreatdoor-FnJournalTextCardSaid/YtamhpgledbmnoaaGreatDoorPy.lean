/-
  Deeds as texts, texts as deeds: plain functions and what they keep.
  Conditions: none.
-/
import Derived.Test.YtamhpgledbmnoaaGreatDoorPd
import Derived.Lib.ItoaMem
import Derived.Lib.AtoiAllCases
import Derived.Lib.IndexMore
namespace Go.Proofs.YtamhpgledbmnoaaGreatDoor.Pl
set_option linter.unusedVariables false
set_option linter.unusedSimpArgs false
/-! Numbers of one to four digits. -/
def nch (k : Nat) : UInt8 := UInt8.ofNat (48 + k)
theorem nch_nat {k : Nat} (h : k < 10) : (nch k).toNat = 48 + k := by unfold nch; simp; omega
theorem nch_0 {k : Nat} (h : k < 10) : nch k = 48 ↔ k = 0 := by
  constructor
  · intro e
    have := congrArg UInt8.toNat e
    rw [nch_nat h] at this
    have h2 : (48 : UInt8).toNat = 48 := rfl
    omega
  · rintro rfl; rfl
theorem nch_ne {k : Nat} {c : UInt8} (h : k < 10) (hc : c.toNat < 48 ∨ 57 < c.toNat) : nch k ≠ c := by
  intro e
  have := congrArg UInt8.toNat e
  rw [nch_nat h] at this
  omega
/-- The digits of a number below 10000. -/
theorem dec_cases {n : Nat} (h : n ≤ 9999) :
    (∃ a, a < 10 ∧ n = a ∧ Lib.decDigits n = [nch a]) ∨
    (∃ a b, 1 ≤ a ∧ a < 10 ∧ b < 10 ∧ n = 10 * a + b ∧ Lib.decDigits n = [nch a, nch b]) ∨
    (∃ a b c, 1 ≤ a ∧ a < 10 ∧ b < 10 ∧ c < 10 ∧ n = 10 * (10 * a + b) + c ∧ Lib.decDigits n = [nch a, nch b, nch c]) ∨
    (∃ a b c d, 1 ≤ a ∧ a < 10 ∧ b < 10 ∧ c < 10 ∧ d < 10 ∧ n = 10 * (10 * (10 * a + b) + c) + d ∧ Lib.decDigits n = [nch a, nch b, nch c, nch d]) := by
  have one : ∀ m, m < 10 → Lib.decDigits m = [nch m] := fun m hm => Lib.decDigits_one hm
  have more : ∀ m, ¬ m < 10 → Lib.decDigits m = Lib.decDigits (m / 10) ++ [nch (m % 10)] := fun m hm => by rw [Lib.decDigits, dif_neg hm]; rfl
  by_cases h1 : n < 10
  · exact .inl ⟨n, h1, rfl, one n h1⟩
  by_cases h2 : n < 100
  · refine .inr (.inl ⟨n / 10, n % 10, by omega, by omega, by omega, by omega, ?_⟩)
    rw [more n h1, one (n / 10) (by omega)]; rfl
  by_cases h3 : n < 1000
  · refine .inr (.inr (.inl ⟨n / 10 / 10, n / 10 % 10, n % 10, by omega, by omega, by omega, by omega, by omega, ?_⟩))
    rw [more n h1, more (n / 10) (by omega), one (n / 10 / 10) (by omega)]; rfl
  · refine .inr (.inr (.inr ⟨n / 10 / 10 / 10, n / 10 / 10 % 10, n / 10 % 10, n % 10, by omega, by omega, by omega, by omega, by omega, by omega, ?_⟩))
    rw [more n h1, more (n / 10) (by omega), more (n / 10 / 10) (by omega), one (n / 10 / 10 / 10) (by omega)]; rfl
def isD (c : UInt8) : Bool := decide (48 ≤ c.toNat ∧ c.toNat ≤ 57)
theorem isD_nch {k : Nat} (h : k < 10) : isD (nch k) = true := decide_eq_true (by rw [nch_nat h]; omega)
def dval (l : List UInt8) : Int := l.foldl (fun n c => 10 * n + ((c.toNat : Int) - 48)) 0
/-- The number of one to four digits without leading zeros; -1 for other texts. -/
def digits (s : List UInt8) : Int := if s.length < 1 ∨ 4 < s.length ∨ (1 < s.length ∧ s.head? = some 48) then -1 else if s.all isD = true then dval s else -1
theorem digits_dec {n : Nat} (h : n ≤ 9999) : digits (Lib.decDigits n) = n := by
  rcases dec_cases h with ⟨a, ha, e, hd⟩ | ⟨a, b, ha0, ha, hb, e, hd⟩ | ⟨a, b, c, ha0, ha, hb, hc, e, hd⟩ | ⟨a, b, c, d, ha0, ha, hb, hc, hd', e, hd⟩
  · rw [hd, e]
    unfold digits
    rw [if_neg (by simp), if_pos (by simp [isD_nch ha])]
    simp [dval, nch_nat ha]; omega
  · have h48 : ¬ nch a = 48 := by rw [nch_0 ha]; omega
    rw [hd, e]
    unfold digits
    rw [if_neg (by simp [h48]), if_pos (by simp [isD_nch ha, isD_nch hb])]
    simp [dval, nch_nat ha, nch_nat hb]; omega
  · have h48 : ¬ nch a = 48 := by rw [nch_0 ha]; omega
    rw [hd, e]
    unfold digits
    rw [if_neg (by simp [h48]), if_pos (by simp [isD_nch ha, isD_nch hb, isD_nch hc])]
    simp [dval, nch_nat ha, nch_nat hb, nch_nat hc]; omega
  · have h48 : ¬ nch a = 48 := by rw [nch_0 ha]; omega
    rw [hd, e]
    unfold digits
    rw [if_neg (by simp [h48]), if_pos (by simp [isD_nch ha, isD_nch hb, isD_nch hc, isD_nch hd'])]
    simp [dval, nch_nat ha, nch_nat hb, nch_nat hc, nch_nat hd']; omega
theorem dec_ne {n : Nat} (h : n ≤ 9999) : Lib.decDigits n ≠ [] ∧ (Lib.decDigits n).length ≤ 4 := by
  rcases dec_cases h with ⟨a, ha, e, hd⟩ | ⟨a, b, ha0, ha, hb, e, hd⟩ | ⟨a, b, c, ha0, ha, hb, hc, e, hd⟩ | ⟨a, b, c, d, ha0, ha, hb, hc, hd', e, hd⟩ <;> rw [hd] <;> simp
theorem dec_mem {n : Nat} (h : n ≤ 9999) {x : UInt8} (hx : x ∈ Lib.decDigits n) : 48 ≤ x.toNat ∧ x.toNat ≤ 57 := by
  have key : ∀ k, k < 10 → 48 ≤ (nch k).toNat ∧ (nch k).toNat ≤ 57 := fun k hk => by rw [nch_nat hk]; omega
  rcases dec_cases h with ⟨a, ha, e, hd⟩ | ⟨a, b, ha0, ha, hb, e, hd⟩ | ⟨a, b, c, ha0, ha, hb, hc, e, hd⟩ | ⟨a, b, c, d, ha0, ha, hb, hc, hd', e, hd⟩ <;>
    rw [hd] at hx <;> simp at hx
  · subst hx; exact key _ ha
  · rcases hx with rfl | rfl
    · exact key _ ha
    · exact key _ hb
  · rcases hx with rfl | rfl | rfl
    · exact key _ ha
    · exact key _ hb
    · exact key _ hc
  · rcases hx with rfl | rfl | rfl | rfl
    · exact key _ ha
    · exact key _ hb
    · exact key _ hc
    · exact key _ hd'
theorem parse_digits : ∀ (l : List UInt8) (acc : Nat), (∀ x ∈ l, 48 ≤ x.toNat ∧ x.toNat ≤ 57) → acc * 10 ^ l.length + 10 ^ l.length < 1844674407370955162 →
    Lib.parseUint10 acc l = .ok (l.foldl (fun n c => n * 10 + (c.toNat - 48)) acc)
  | [], acc, _, _ => rfl
  | c :: r, acc, h, hb => by
    have hc := h c (by simp)
    rw [List.length_cons, Nat.pow_succ] at hb
    have hp : 1 ≤ 10 ^ r.length := Nat.one_le_pow _ _ (by omega)
    have h10 : acc * 10 + 10 ≤ acc * (10 ^ r.length * 10) + 10 ^ r.length * 10 := by
      have : acc * 10 ≤ acc * (10 ^ r.length * 10) := Nat.mul_le_mul_left acc (by omega)
      omega
    have hs : (acc * 10 + (c.toNat - 48)) * 10 ^ r.length + 10 ^ r.length < 1844674407370955162 := by
      have e1 : (acc * 10 + (c.toNat - 48)) * 10 ^ r.length ≤ (acc * 10 + 9) * 10 ^ r.length := Nat.mul_le_mul_right _ (by omega)
      have e2 : (acc * 10 + 9) * 10 ^ r.length + 10 ^ r.length = acc * (10 ^ r.length * 10) + 10 ^ r.length * 10 := by
        rw [Nat.add_mul, Nat.mul_assoc, Nat.mul_comm 10 (10 ^ r.length)]; omega
      omega
    unfold Lib.parseUint10
    rw [if_pos hc, if_neg (by omega), if_neg (by omega)]
    exact parse_digits r _ (fun x hx => h x (by simp [hx])) hs
theorem atoi_dec {n : Nat} (h : n ≤ 9999) : Lib.atoiAll (Lib.decDigits n) = .ok (n : Int) := by
  obtain ⟨hne, hlen⟩ := dec_ne h
  have hm := fun x => @dec_mem n h x
  have hv : (Lib.decDigits n).foldl (fun n c => n * 10 + (c.toNat - 48)) 0 = n := by
    rcases dec_cases h with ⟨a, ha, e, hd⟩ | ⟨a, b, ha0, ha, hb, e, hd⟩ | ⟨a, b, c, ha0, ha, hb, hc, e, hd⟩ | ⟨a, b, c, d, ha0, ha, hb, hc, hd', e, hd⟩ <;> rw [hd] <;>
      simp [nch_nat, *] <;> omega
  obtain ⟨l, hl⟩ : ∃ l, l = Lib.decDigits n := ⟨_, rfl⟩
  rw [← hl] at hne hlen hm hv ⊢
  have hp : 10 ^ l.length ≤ 10 ^ 4 := Nat.pow_le_pow_right (by omega) hlen
  have hpar : Lib.parseMag l = .ok n := by
    unfold Lib.parseMag
    rw [if_neg hne, parse_digits l 0 (fun x hx => hm x hx) (by omega), hv]
  obtain ⟨c, r, rfl⟩ := List.exists_cons_of_ne_nil hne
  have hc := hm c (by simp)
  rw [Lib.atoiAll_plain c r (by omega) (by omega), hpar]
  unfold Lib.signless
  simp only
  rw [if_neg (by omega)]
/-! Texts of deeds. -/
/-- The text of a deed; the empty one if it has none. -/
def dtext (d : Dd) : List UInt8 :=
  if d.k = 0 then (if d.t = [] ∧ 0 ≤ d.n ∧ d.n ≤ 9999 then 120 :: 32 :: Lib.decDigits d.n.toNat else [])
  else if d.k = 1 then (if d.t = [] ∧ 0 ≤ d.n ∧ d.n ≤ 9999 then 121 :: 32 :: Lib.decDigits d.n.toNat else [])
  else if d.k = 2 then (if d.n = 0 ∧ isTxt d.t = true then 101 :: 120 :: 112 :: 114 :: 32 :: d.t else [])
  else if d.k = 3 then (if d.n = 0 ∧ d.t = [] then [115, 105, 109, 112, 108, 101] else [])
  else if d.k = 4 then (if d.n = 0 ∧ d.t = [] then [115, 104, 111, 114, 116] else [])
  else if d.k = 5 then (if d.n = 0 ∧ d.t = [] then [98, 97, 99, 107] else [])
  else []
theorem dtext_0 {n : Nat} (h : n ≤ 9999) : dtext ⟨0, n, []⟩ = 120 :: 32 :: Lib.decDigits n := by
  unfold dtext; dsimp only; rw [if_pos rfl, if_pos ⟨rfl, by omega, by omega⟩]; rfl
theorem dtext_1 {n : Nat} (h : n ≤ 9999) : dtext ⟨1, n, []⟩ = 121 :: 32 :: Lib.decDigits n := by
  unfold dtext; dsimp only; rw [if_neg (by decide), if_pos rfl, if_pos ⟨rfl, by omega, by omega⟩]; rfl
theorem dtext_2 {t : List UInt8} (h : isTxt t = true) : dtext ⟨2, 0, t⟩ = 101 :: 120 :: 112 :: 114 :: 32 :: t := by
  unfold dtext; dsimp only; rw [if_neg (by decide), if_neg (by decide), if_pos rfl, if_pos ⟨rfl, h⟩]
theorem dtext_cases (d : Dd) : dtext d = [] ∨ (∃ n : Nat, n ≤ 9999 ∧ d = ⟨0, n, []⟩ ∧ dtext d = 120 :: 32 :: Lib.decDigits n) ∨ (∃ n : Nat, n ≤ 9999 ∧ d = ⟨1, n, []⟩ ∧ dtext d = 121 :: 32 :: Lib.decDigits n) ∨
    (∃ t, isTxt t = true ∧ d = ⟨2, 0, t⟩ ∧ dtext d = 101 :: 120 :: 112 :: 114 :: 32 :: t) ∨ (d = ⟨3, 0, []⟩ ∧ dtext d = [115, 105, 109, 112, 108, 101]) ∨ (d = ⟨4, 0, []⟩ ∧ dtext d = [115, 104, 111, 114, 116]) ∨ (d = ⟨5, 0, []⟩ ∧ dtext d = [98, 97, 99, 107]) := by
  obtain ⟨k, n, t⟩ := d
  unfold dtext
  dsimp only
  by_cases k0 : k = 0
  · rw [if_pos k0]
    split
    · rename_i h
      obtain ⟨rfl, h0, h1⟩ := h
      subst k0
      exact .inr (.inl ⟨n.toNat, by omega, by rw [Int.toNat_of_nonneg h0], rfl⟩)
    · exact .inl rfl
  rw [if_neg k0]
  by_cases k1 : k = 1
  · rw [if_pos k1]
    split
    · rename_i h
      obtain ⟨rfl, h0, h1⟩ := h
      subst k1
      exact .inr (.inr (.inl ⟨n.toNat, by omega, by rw [Int.toNat_of_nonneg h0], rfl⟩))
    · exact .inl rfl
  rw [if_neg k1]
  by_cases k2 : k = 2
  · rw [if_pos k2]
    split
    · rename_i h
      obtain ⟨rfl, h0⟩ := h
      subst k2
      exact .inr (.inr (.inr (.inl ⟨t, h0, rfl, rfl⟩)))
    · exact .inl rfl
  rw [if_neg k2]
  by_cases k3 : k = 3
  · rw [if_pos k3]
    split
    · rename_i h
      obtain ⟨rfl, rfl⟩ := h
      subst k3
      exact .inr (.inr (.inr (.inr (.inl ⟨rfl, rfl⟩))))
    · exact .inl rfl
  rw [if_neg k3]
  by_cases k4 : k = 4
  · rw [if_pos k4]
    split
    · rename_i h
      obtain ⟨rfl, rfl⟩ := h
      subst k4
      exact .inr (.inr (.inr (.inr (.inr (.inl ⟨rfl, rfl⟩)))))
    · exact .inl rfl
  rw [if_neg k4]
  by_cases k5 : k = 5
  · rw [if_pos k5]
    split
    · rename_i h
      obtain ⟨rfl, rfl⟩ := h
      subst k5
      exact .inr (.inr (.inr (.inr (.inr (.inr ⟨rfl, rfl⟩)))))
    · exact .inl rfl
  rw [if_neg k5]
  exact .inl rfl
/-- A text has one deed. -/
theorem dtext_inj {d e : Dd} (h : dtext d = dtext e) (hn : dtext d ≠ []) : d = e := by
  rcases dtext_cases d with h1 | ⟨n, hl, rfl, h1⟩ | ⟨n, hl, rfl, h1⟩ | ⟨t, ht, rfl, h1⟩ | ⟨rfl, h1⟩ | ⟨rfl, h1⟩ | ⟨rfl, h1⟩
  · exact absurd h1 hn
  all_goals rcases dtext_cases e with h2 | ⟨m, hm, rfl, h2⟩ | ⟨m, hm, rfl, h2⟩ | ⟨u, hu, rfl, h2⟩ | ⟨rfl, h2⟩ | ⟨rfl, h2⟩ | ⟨rfl, h2⟩
  all_goals first
    | rfl
    | (rw [h1, h2] at h; exfalso; revert h; simp; done)
    | (rw [h1, h2] at h)
  · injection h with _ h
    injection h with _ h
    have := congrArg digits h
    rw [digits_dec hl, digits_dec hm] at this
    rw [this]
  · injection h with _ h
    injection h with _ h
    have := congrArg digits h
    rw [digits_dec hl, digits_dec hm] at this
    rw [this]
  · simp at h
    rw [h]
/-- The deeds whose text a text may be. -/
def cands (s : List UInt8) : List Dd := [⟨3, 0, []⟩, ⟨4, 0, []⟩, ⟨5, 0, []⟩] ++ (if 2 < s.length then [⟨0, digits (s.drop 2), []⟩, ⟨1, digits (s.drop 2), []⟩] else []) ++ (if 5 < s.length then [⟨2, 0, s.drop 5⟩] else [])
theorem isTxt_nil : isTxt [] = false := by
  cases h : isTxt [] with
  | false => rfl
  | true => obtain ⟨e, he⟩ := isTxt_some h; exact absurd rfl (readE_some he).2
theorem isTxt_ne {t : List UInt8} (h : isTxt t = true) : t ≠ [] := by rintro rfl; rw [isTxt_nil] at h; cases h
theorem cands_mem {d : Dd} {s : List UInt8} (h : dtext d = s) (hn : s ≠ []) : d ∈ cands s := by
  subst h
  unfold cands
  rcases dtext_cases d with h1 | ⟨n, hl, rfl, h1⟩ | ⟨n, hl, rfl, h1⟩ | ⟨t, ht, rfl, h1⟩ | ⟨rfl, h1⟩ | ⟨rfl, h1⟩ | ⟨rfl, h1⟩
  · exact absurd h1 hn
  · rw [h1]
    have : 0 < (Lib.decDigits n).length := List.length_pos_iff.2 (dec_ne hl).1
    rw [if_pos (by simp; omega)]
    simp [digits_dec hl]
  · rw [h1]
    have : 0 < (Lib.decDigits n).length := List.length_pos_iff.2 (dec_ne hl).1
    rw [if_pos (by simp; omega)]
    simp [digits_dec hl]
  · rw [h1]
    have : 0 < t.length := List.length_pos_iff.2 (isTxt_ne ht)
    rw [if_pos (show 5 < (101 :: 120 :: 112 :: 114 :: 32 :: t).length by simp; omega)]
    simp
  · simp
  · simp
  · simp
/-- The deed of a text. -/
def readD (s : List UInt8) : Option Dd := (cands s).find? fun c => decide (s ≠ [] ∧ dtext c = s)
theorem readD_some {s : List UInt8} {d : Dd} (h : readD s = some d) : dtext d = s ∧ s ≠ [] := by
  have := List.find?_some h
  simp only [decide_eq_true_eq] at this
  exact ⟨this.2, this.1⟩
theorem readD_of {s : List UInt8} {d : Dd} (h : dtext d = s) (hn : s ≠ []) : readD s = some d := by
  cases hr : readD s with
  | none =>
    have := List.find?_eq_none.1 hr d (cands_mem h hn)
    simp [h, hn] at this
  | some e =>
    obtain ⟨h1, _⟩ := readD_some hr
    rw [dtext_inj (h1.trans h.symm) (by rw [h1]; exact hn)]
theorem readD_text {d : Dd} (h : dtext d ≠ []) : readD (dtext d) = some d := readD_of rfl h
/-- Where only one deed can be meant. -/
theorem readD_try {s : List UInt8} {d : Dd} (hs : s ≠ []) (h : ∀ e, dtext e = s → e = d) : readD s = if dtext d = s then some d else none := by
  by_cases hd : dtext d = s
  · rw [if_pos hd]; exact readD_of hd hs
  · rw [if_neg hd]
    cases hr : readD s with
    | none => rfl
    | some e => obtain ⟨h1, _⟩ := readD_some hr; rw [h e h1] at h1; exact absurd h1 hd
theorem readD_none {s : List UInt8} (h : ∀ e, dtext e = s → s ≠ [] → False) : readD s = none := by
  cases hr : readD s with
  | none => rfl
  | some e => obtain ⟨h1, h2⟩ := readD_some hr; exact (h e h1 h2).elim
/-! Letters. -/
theorem brk_mem {b : Bool} {x : List UInt8} {c : UInt8} (h : c ∈ brk b x) : c = 40 ∨ c = 41 ∨ c ∈ x := by
  unfold brk at h
  split at h
  · simp at h; rcases h with h | h | h
    · exact .inl h
    · exact .inr (.inr h)
    · exact .inr (.inl h)
  · exact .inr (.inr h)
theorem sign_ge : ∀ s : Int, 12 ≤ s → s ≤ 19 → 33 ≤ (signCh s).toNat := by
  intro s h1 h2
  rcases (by omega : s = 12 ∨ s = 13 ∨ s = 14 ∨ s = 15 ∨ s = 16 ∨ s = 17 ∨ s = 18 ∨ s = 19) with rfl | rfl | rfl | rfl | rfl | rfl | rfl | rfl <;> decide
theorem leaf_ge {s : Int} (h0 : 0 ≤ s) (h1 : s < 12) : 33 ≤ (leafCh s).toNat := by
  rcases (by omega : s = 0 ∨ s = 1 ∨ s = 2 ∨ s = 3 ∨ s = 4 ∨ s = 5 ∨ s = 6 ∨ s = 7 ∨ s = 8 ∨ s = 9 ∨ s = 10 ∨ s = 11) with rfl | rfl | rfl | rfl | rfl | rfl | rfl | rfl | rfl | rfl | rfl | rfl <;> decide
theorem txt_ge : ∀ (t : Tr), t.ok → ∀ c ∈ t.txt, 33 ≤ c.toNat
  | .leaf s, ok, c, h => by
    simp [Tr.txt] at h
    subst h
    exact leaf_ge ok.1 ok.2
  | .un s t, ok, c, h => by
    simp only [Tr.txt, List.mem_cons] at h
    rcases h with rfl | h
    · exact sign_ge s ok.1.1 (by have := ok.1.2; omega)
    · rcases brk_mem h with rfl | rfl | h
      · decide
      · decide
      · exact txt_ge t ok.2 c h
  | .bin s l r, ok, c, h => by
    simp only [Tr.txt, List.mem_append, List.mem_cons] at h
    rcases h with h | rfl | h
    · rcases brk_mem h with rfl | rfl | h
      · decide
      · decide
      · exact txt_ge l ok.2.1 c h
    · exact sign_ge s (by have := ok.1.1; omega) ok.1.2
    · rcases brk_mem h with rfl | rfl | h
      · decide
      · decide
      · exact txt_ge r ok.2.2 c h
theorem isTxt_ge {t : List UInt8} (h : isTxt t = true) : ∀ c ∈ t, 33 ≤ c.toNat := by
  obtain ⟨e, he⟩ := isTxt_some h
  have hv := readE_valid he
  have h1 := (readE_some he).1
  rw [text_valid hv] at h1
  rw [← h1]
  exact txt_ge _ (run_valid hv).2.1
/-- A deed's text has no newline, and no space at its end. -/
theorem dtext_mem (d : Dd) : ∀ c ∈ dtext d, c ≠ 10 := by
  intro c hc
  have h33 : 33 ≤ c.toNat → c ≠ 10 := by rintro h rfl; exact absurd h (by decide)
  rcases dtext_cases d with h1 | ⟨n, hl, rfl, h1⟩ | ⟨n, hl, rfl, h1⟩ | ⟨t, ht, rfl, h1⟩ | ⟨rfl, h1⟩ | ⟨rfl, h1⟩ | ⟨rfl, h1⟩ <;> rw [h1] at hc
  · cases hc
  · simp only [List.mem_cons] at hc
    rcases hc with rfl | rfl | hc
    · decide
    · decide
    · exact h33 (by have := dec_mem hl hc; omega)
  · simp only [List.mem_cons] at hc
    rcases hc with rfl | rfl | hc
    · decide
    · decide
    · exact h33 (by have := dec_mem hl hc; omega)
  · simp only [List.mem_cons] at hc
    rcases hc with rfl | rfl | rfl | rfl | rfl | hc
    · decide
    · decide
    · decide
    · decide
    · decide
    · exact h33 (isTxt_ge ht c hc)
  all_goals
    simp only [List.mem_cons, List.not_mem_nil, or_false] at hc
    rcases hc with rfl | rfl | rfl | rfl | rfl | rfl <;> decide
theorem dtext_last (d : Dd) (p : List UInt8) : dtext d ≠ p ++ [32] := by
  intro h
  have hl : (dtext d).getLast? = some 32 := by rw [h, List.getLast?_concat]
  have tail : ∀ (a : List UInt8) (l : List UInt8), l ≠ [] → (∀ c ∈ l, 33 ≤ c.toNat) → (a ++ l).getLast? ≠ some 32 := by
    intro a l hne hall e
    rw [List.getLast?_append] at e
    cases hg : l.getLast? with
    | none => rw [List.getLast?_eq_none_iff] at hg; exact hne hg
    | some c =>
      rw [hg] at e
      have : c = 32 := by simpa using e
      subst this
      exact absurd (hall _ (List.mem_of_getLast? hg)) (by decide)
  rcases dtext_cases d with h1 | ⟨n, hn, rfl, h1⟩ | ⟨n, hn, rfl, h1⟩ | ⟨t, ht, rfl, h1⟩ | ⟨rfl, h1⟩ | ⟨rfl, h1⟩ | ⟨rfl, h1⟩ <;> rw [h1] at hl
  · cases hl
  · exact tail [120, 32] _ (dec_ne hn).1 (fun c hc => by have := dec_mem hn hc; omega) hl
  · exact tail [121, 32] _ (dec_ne hn).1 (fun c hc => by have := dec_mem hn hc; omega) hl
  · exact tail [101, 120, 112, 114, 32] _ (isTxt_ne ht) (isTxt_ge ht) hl
  all_goals revert hl; decide
theorem readD_space (s : List UInt8) : readD (s ++ [32]) = none := readD_none fun e h _ => dtext_last e s h
theorem dtext_len (d : Dd) : (dtext d).length ≤ 75 := by
  rcases dtext_cases d with h1 | ⟨n, hn, rfl, h1⟩ | ⟨n, hn, rfl, h1⟩ | ⟨t, ht, rfl, h1⟩ | ⟨rfl, h1⟩ | ⟨rfl, h1⟩ | ⟨rfl, h1⟩ <;> rw [h1]
  · simp
  · have := (dec_ne hn).2; simp; omega
  · have := (dec_ne hn).2; simp; omega
  · have := isTxt_len ht; simp; omega
  all_goals simp
end Go.Proofs.YtamhpgledbmnoaaGreatDoor.Pl
