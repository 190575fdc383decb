/-
  The reference's span and halves of an expression, and its numbers as texts.
  Conditions: as stated at each.
-/
import Derived.Test.YtnjcephddilalabT1
import Derived.Test.YtnjcephddilalabPs
import Derived.Lib.SlBytesRow
import Derived.IntWalk
namespace Go.Proofs.Ytnjcephddilalab
set_option linter.unusedVariables false
set_option linter.unusedSimpArgs false
open Go.RowKit
/-- Where the part that is t begins, in an expression that goes on ahead of it and behind it. -/
theorem span_get {t : Pl.Tr} {pre suf xs : List Int} (hxs : xs = pre ++ t.post ++ suf) {k : Nat} (hk : k < t.post.length) : xs[pre.length + (t.post.length - 1 - k)]? = t.post[t.post.length - 1 - k]? := by
  rw [hxs, List.append_assoc, List.getElem?_append_right (by omega), List.getElem?_append_left (by omega)]
  congr 1
  omega
set_option maxHeartbeats 1000000 in
theorem spec_l9Span (A : Option Addr) (n c B p m : Nat) (xs pre suf : List Int) (t : Pl.Tr) (w : World) (hx : Rd w B A n (I64 xs)) (hn : n ≤ 1000000) (ok : t.ok) (hxs : xs = pre ++ t.post ++ suf) (hp : pre.length = p) (hm : t.post.length = m) :
    Calls Try.prog 111 #[.slice A n c, .int .i64 ((p : Int) + m - 1)] w fun e w' => e = .returned (.int .i64 p) ∧ w = w' := by
  have lx : xs.length = n := by have := hx.len; rwa [I64_len] at this
  have hm0 := t.post_pos
  have hlen : p + m ≤ n := by have := congrArg List.length hxs; simp at this; omega
  obtain ⟨b, off, rfl, _, hc⟩ := hx.pos (by omega)
  have HC := Lib.hid hc
  have HM := Lib.hid hm
  have HP := Lib.hid hp
  have HXS := Lib.hid hxs
  have OK := Lib.hid ok
  clear hc hx hxs lx ok
  have e1 : (p : Int) + m - 1 + 1 = (p : Int) + m := by omega
  rw [hm] at hm0
  clear hm hp
  go_enter Try.func111, Try.ntmps111
  go_wp2_with fail
  go_loop [5, 6] (fun nd at_ => ∃ k : Nat, k ≤ m ∧ at_ = .int .i64 ((p + (m - k) : Nat) : Int) ∧ nd = .int .i64 (Pl.ndk t.post k)) (fun _ at_ => (intOf at_).toNat)
  case atStart => exact ⟨0, by omega, by simp, by rw [Pl.ndk_0]⟩
  case round =>
    obtain ⟨k, hk, rfl, rfl⟩ := hrel
    have hbd := Pl.ndk_bd (e := t.post) k (by rw [HM.out]; exact hk)
    by_cases hlt : k < m
    · have hpos := Pl.ndk_pos OK.out (k := k) (by rw [HM.out]; exact hlt)
      obtain ⟨s, es⟩ : ∃ s, t.post[t.post.length - 1 - k]? = some s := ⟨_, List.getElem?_eq_getElem (by have := HM.out; omega)⟩
      have hsg := span_get HXS.out (t := t) (k := k) (by rw [HM.out]; exact hlt)
      rw [es, HP.out, HM.out] at hsg
      have c1 : w.cell? ⟨b, off + (p + (m - 1 - k)), none⟩ = some (.int .i64 s) := HC.out _ _ (I64_get hsg)
      have hs := Pl.ndk_succ (e := t.post) (k := k) (by rw [HM.out]; exact hlt) es
      have HS := Lib.hid hs
      have ht := Pl.takes_bd s
      obtain ⟨q, hq⟩ : ∃ q : Nat, m = k + 1 + q := ⟨m - (k + 1), by omega⟩
      have e2 : p + (m - k) = p + q + 1 := by omega
      have e3 : m - 1 - k = q := by omega
      have e4 : m - (k + 1) = q := by omega
      rw [e2]
      rw [e3] at c1
      have e5 : (((p + q + 1 : Nat) : Int)) = (p : Int) + q + 1 := by omega
      rw [e5]
      have e6 : (p : Int) + q + 1 - 1 = ((p + q : Nat) : Int) := by omega
      have i0 : (0 : Int) ≤ ((p + q : Nat) : Int) := by omega
      have i1 : ((p + q : Nat) : Int) < (n : Int) := by omega
      generalize Pl.ndk t.post k = N at *
      have HQ := Lib.hid hq
      have E4 := Lib.hid e4
      clear hq e2 e3 e4 e5 es hsg hs
      go_wp2_with (first | (go_at_call 44; refine (spec_l9Takes _ _).mono ?_; rintro e w' ⟨rfl, rfl⟩))
      go_round
      case rel => exact ⟨k + 1, by omega, by rw [E4.out]; go_num, by rw [HS.out]⟩
      case measure => simp [intOf]; omega
    · obtain rfl : k = m := by omega
      have hz := Pl.ndk_end OK.out
      rw [HM.out] at hz
      rw [hz]
      rw [show p + (k - k) = p by omega]
      clear hz hbd
      go_wp2
      go_ret
      exact ⟨rfl, rfl⟩
/-- Parts of a slice that reads as a list. -/
theorem Rd.take {w : World} {B n : Nat} {A : Option Addr} {xs : List Value} (h : Rd w B A n xs) {k : Nat} (hk : k ≤ n) : Rd w B A k (xs.take k) := by
  refine ⟨by rw [List.length_take, h.1]; omega, ?_⟩
  rcases h.2 with h0 | ⟨b, off, e, hb, hc⟩
  · exact .inl (by omega)
  · refine .inr ⟨b, off, e, hb, fun j u hu => hc j u ?_⟩
    rw [List.getElem?_take] at hu
    split at hu
    · exact hu
    · cases hu
theorem Rd.drop {w : World} {B n b off : Nat} {xs : List Value} (h : Rd w B (some ⟨b, off, none⟩) n xs) {k : Nat} (hk : k < n) : Rd w B (some ⟨b, off + k, none⟩) (n - k) (xs.drop k) := by
  refine ⟨by rw [List.length_drop, h.1], .inr ⟨b, off + k, rfl, ?_, fun j u hu => ?_⟩⟩
  · rcases h.2 with h0 | ⟨b', off', e, hb, hc⟩
    · omega
    · injection e with e; injection e with e1 e2; subst e1; exact hb
  · rcases h.2 with h0 | ⟨b', off', e, hb, hc⟩
    · omega
    · injection e with e
      injection e with e1 e2
      subst e1
      subst e2
      rw [Nat.add_assoc]
      exact hc _ u (by rw [← hu, List.getElem?_drop])
def OutH (A A' : Option Addr) (n c n' c' : Nat) (w : World) (e : Ending) (w' : World) : Prop := e = .returned (.tuple #[.slice A n c, .slice A' n' c']) ∧ ∃ q, w' = w.drewN q
set_option maxHeartbeats 1000000 in
theorem spec_l9Halves (b off n c B p m : Nat) (s : Int) (l r : Pl.Tr) (w : World) (hx : Rd w B (some ⟨b, off, none⟩) n (I64 (l.post ++ r.post ++ [s]))) (hn : n ≤ 1000000) (hnc : n ≤ c) (ok : r.ok) (hp : l.post.length = p) (hm : r.post.length = m) :
    Calls Try.prog 95 #[.slice (some ⟨b, off, none⟩) n c] w (OutH (some ⟨b, off, none⟩) (some ⟨b, off + p, none⟩) p c m (c - p) w) := by
  have hlen : n = p + m + 1 := by have := hx.len; rw [I64_len] at this; simp at this; omega
  subst hlen
  have hsp := fun w' h => spec_l9Span (some ⟨b, off, none⟩) (p + m + 1) c B p m _ l.post [s] r w' h hn ok rfl hp hm
  have HSP := Lib.hid hsp
  have HX := Lib.hid hx
  clear hx hsp hp hm
  have k1 : ((p + m + 1 : Nat) : Int) = (p : Int) + m + 1 := by omega
  have k2 : (p : Int) + m + 1 - 1 = ((p + m : Nat) : Int) := by omega
  have k3 : ((p + m : Nat) : Int) - 1 = (p : Int) + m - 1 := by omega
  have k4 : (p : Int) ≤ (c : Int) := by omega
  have k5 : (0 : Int) ≤ (p : Int) := by omega
  have k6 : (p : Int) ≤ ((p + m : Nat) : Int) := by omega
  have k7 : ((p + m : Nat) : Int) ≤ (c : Int) := by omega
  have k8 : ¬ c = p := by omega
  have k9 : p + m - p = m := by omega
  go_enter Try.func95, Try.ntmps95
  go_wp2_with fail
  refine (HSP.out _ HX.out).mono ?_
  rintro e w' ⟨rfl, rfl⟩
  go_wp2_with fail
  go_quiet (fail)
  go_wp2_with fail
  go_ret2
  exact ⟨by show Ending.returned (.tuple #[.slice (some ⟨b, off, none⟩) p c, .slice (some ⟨b, off + p, none⟩) (p + m - p) (c - p)]) = _; rw [k9], _, rfl⟩
/-- A digit. -/
def digCh (k : Nat) : UInt8 := UInt8.ofNat (48 + k)
theorem digCh_nat {k : Nat} (h : k < 10) : (digCh k).toNat = 48 + k := by unfold digCh; simp; omega
/-- A number as a text. -/
def dec (n : Nat) : List UInt8 := if n < 10 then [digCh n] else dec (n / 10) ++ [digCh (n % 10)]
theorem dec_1 {n : Nat} (h : n < 10) : dec n = [digCh n] := by rw [dec, if_pos h]
theorem dec_2 {n : Nat} (h : 10 ≤ n) : dec n = dec (n / 10) ++ [digCh (n % 10)] := by rw [dec, if_neg (by omega)]
/-- What a text comes out as: memory may have been made. -/
def OutB (x : List UInt8) (w : World) (e : Ending) (w' : World) : Prop := e = .returned (.string (Ba x)) ∧ Below w.heap.size w w'
theorem conv_digit (W : World) (b k cap : Nat) (v : Int) (hv : v = 48 + (k : Int)) (hk : k < 10) (hc : W.cell? ⟨b, 0, none⟩ = some (.int .u8 v)) :
    (convert 22 9 (.slice (some ⟨b, 0, none⟩) 1 cap)).run Try.prog W = .ok (.string (Ba [digCh k])) W := by
  subst hv
  refine Go.Lib.run_convert_whole W 22 5 9 Try.underlying22 Try.underlying5 Try.underlying9 b 0 (Ba [digCh k]) (fun i hi => ?_) cap
  have hi : i < 1 := hi
  obtain rfl : i = 0 := by omega
  rw [hc]
  have e1 := digCh_nat hk
  show some (Value.int .u8 (48 + (k : Int))) = some (Value.int .u8 ((digCh k).toNat : Int))
  rw [e1]
  congr 2
set_option maxRecDepth 100000 in
set_option maxHeartbeats 1000000 in
theorem spec_l1Number_1 (n : Nat) (w : World) (h : n < 10) : Calls Try.prog 108 #[.int .i64 n] w (OutB (dec n) w) := by
  have HD := Lib.hid (dec_1 h)
  have k1 : (0 : Int) ≤ (n : Int) := by omega
  have k2 : (n : Int) < 10 := by omega
  have k3 : decide ((n : Int) < 0) = false := by simp
  have kc := fun (W : World) (b cap : Nat) (hc : W.cell? ⟨b, 0, none⟩ = some (.int .u8 (48 + (n : Int)))) => conv_digit W b n cap _ rfl h hc
  go_enter Try.func108, Try.ntmps108
  go_wp2_with fail
  go_ret
  exact ⟨by rw [HD.out]; rfl, (Below.refl _ _).alloc (Nat.le_refl _) _⟩
theorem dec_len_pos (n : Nat) : 0 < (dec n).length := by
  by_cases h : n < 10
  · rw [dec_1 h]; simp
  · rw [dec_2 (by omega)]; simp
theorem dec_len : ∀ (k n : Nat), n < 10 ^ (k + 1) → (dec n).length ≤ k + 1
  | 0, n, h => by rw [dec_1 (by simpa using h)]; simp
  | k + 1, n, h => by
    by_cases h1 : n < 10
    · rw [dec_1 h1]; simp
    · rw [dec_2 (by omega), List.length_append]
      have := dec_len k (n / 10) (by rw [Nat.div_lt_iff_lt_mul (by decide)]; rw [Nat.pow_succ] at h; exact h)
      simp; omega
set_option maxRecDepth 100000 in
set_option maxHeartbeats 1000000 in
theorem spec_l1Number (k : Nat) : ∀ (n : Nat) (w : World), k ≤ 3 → n < 10 ^ (k + 1) → Calls Try.prog 108 #[.int .i64 n] w (OutB (dec n) w) := by
  induction k with
  | zero => intro n w hk h; exact spec_l1Number_1 n w (by simpa using h)
  | succ k ih =>
    intro n w hk h
    by_cases h1 : n < 10
    · exact spec_l1Number_1 n w h1
    · skip
      have hd := dec_2 (n := n) (by omega)
      have hq0 : n / 10 < 10 ^ (k + 1) := by rw [Nat.div_lt_iff_lt_mul (by decide)]; rw [Nat.pow_succ] at h; exact h
      have k2 : (n : Int) < 100000 := by
        have : 10 ^ (k + 1 + 1) ≤ 10 ^ 5 := Nat.pow_le_pow_right (by decide) (by omega)
        omega
      obtain ⟨q, hq⟩ : ∃ q, q = n / 10 := ⟨_, rfl⟩
      obtain ⟨r, hr⟩ : ∃ r, r = n % 10 := ⟨_, rfl⟩
      rw [← hq, ← hr] at hd
      rw [← hq] at hq0
      have hdl := dec_len k q hq0
      have IH := Lib.hid (fun w => ih q w (by omega) hq0)
      have HD := Lib.hid hd
      have k1 : (10 : Int) ≤ (n : Int) := by omega
      have k3 : decide ((n : Int) < 0) = false := by simp
      have k4 : (n : Int) / 10 = (q : Int) := by omega
      have k5 : (n : Int) % 10 = (r : Int) := by omega
      have k6 : r < 10 := by omega
      have k7 : (0 : Int) ≤ (r : Int) := by omega
      have k8 : (r : Int) < 10 := by omega
      have kc := fun (W : World) (b cap : Nat) (hc : W.cell? ⟨b, 0, none⟩ = some (.int .u8 (48 + (r : Int)))) => conv_digit W b r cap _ rfl k6 hc
      have ka := fun w => add_Ba (P := Try.prog) (dec q) [digCh r] (by simp; omega) w
      clear hd hdl h h1 hq hr hq0 ih
      have k9 : ¬ (n : Int) < 10 := by omega
      have k10 : ¬ (n : Int) < 0 := by omega
      have J2 := Lib.hid (show (n : Int).tmod 10 = r by rw [Int.tmod_eq_emod_of_nonneg (by omega)]; exact k5)
      have J3 := Lib.hid (show IntKind.i64.wrap (48 + (r : Int)) = 48 + r from IntWalk.i64_in _ (by omega))
      have J4 := Lib.hid (show IntKind.u8.wrap (48 + (r : Int)) = 48 + r by rcases (by omega : r = 0 ∨ r = 1 ∨ r = 2 ∨ r = 3 ∨ r = 4 ∨ r = 5 ∨ r = 6 ∨ r = 7 ∨ r = 8 ∨ r = 9) with rfl | rfl | rfl | rfl | rfl | rfl | rfl | rfl | rfl | rfl <;> rfl)
      clear k7 k8 k6
      go_enter Try.func108, Try.ntmps108
      go_upto_region 1 with (fail)
      go_wp2_with fail
      have j1 : IntKind.i64.wrap (q : Int) = q := IntWalk.i64_in _ (by omega)
      have j2 : (n : Int).tmod 10 = r := J2.out
      have j3 : IntKind.i64.wrap (48 + (r : Int)) = 48 + r := J3.out
      have j4 : IntKind.u8.wrap (48 + (r : Int)) = 48 + r := J4.out
      go_region_with (first | (go_at_call 108; refine (IH.out _).mono ?_; rintro e w1 ⟨rfl, hb1⟩; have hc1 := (bcell hb1).1))
      all_goals go_wp2
      all_goals go_ret
      all_goals refine ⟨by rw [HD.out]; rfl, ?_⟩
      all_goals first
        | exact ((Below.refl w.heap.size w).drew.trans hb1).alloc hb1.size _
        | exact ((Below.refl w.heap.size w).alloc (Nat.le_refl _) _).drew.trans (hb1.mono (by simp))
end Go.Proofs.Ytnjcephddilalab
