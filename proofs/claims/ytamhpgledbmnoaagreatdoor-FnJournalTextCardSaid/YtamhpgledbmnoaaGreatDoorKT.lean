/-
  Contracts of texts of expressions, and of the program's reading of them.
  Conditions: as stated at each.
-/
import Derived.Test.YtamhpgledbmnoaaGreatDoorT1
import Derived.Test.YtamhpgledbmnoaaGreatDoorKP
import Derived.Lib.SlBytesRow
import Derived.IntWalk
import Derived.Test.YtamhpgledbmnoaaGreatDoorT2
import Derived.Lib.Bytealg
import Derived.Lib.Strings
import Derived.Deep.Onto
import Derived.Laws.OwnMore
import Derived.Laws.AppendOwnNone
import Derived.Laws.Strings
namespace Go.Proofs.YtamhpgledbmnoaaGreatDoor
set_option linter.unusedVariables false
set_option linter.unusedSimpArgs false
open Go.RowKit
/-- Where the part that is t begins, in an expression that goes on ahead of it and behind it. -/
theorem span_get {t : Pl.Tr} {pre suf xs : List Int} (hxs : xs = pre ++ t.post ++ suf) {k : Nat} (hk : k < t.post.length) : xs[pre.length + (t.post.length - 1 - k)]? = t.post[t.post.length - 1 - k]? := by
  rw [hxs, List.append_assoc, List.getElem?_append_right (by omega), List.getElem?_append_left (by omega)]
  congr 1
  omega
set_option maxHeartbeats 1000000 in
theorem spec_l9Span (A : Option Addr) (n c B p m : Nat) (xs pre suf : List Int) (t : Pl.Tr) (w : World) (hx : Rd w B A n (I64 xs)) (hn : n ≤ 1000000) (ok : t.ok) (hxs : xs = pre ++ t.post ++ suf) (hp : pre.length = p) (hm : t.post.length = m) :
    Calls Tryz.prog 105 #[.slice A n c, .int .i64 ((p : Int) + m - 1)] w fun e w' => e = .returned (.int .i64 p) ∧ w = w' := by
  have lx : xs.length = n := by have := hx.len; rwa [I64_len] at this
  have hm0 := t.post_pos
  have hlen : p + m ≤ n := by have := congrArg List.length hxs; simp at this; omega
  obtain ⟨b, off, rfl, _, hc⟩ := hx.pos (by omega)
  have HC := Lib.hid hc
  have HM := Lib.hid hm
  have HP := Lib.hid hp
  have HXS := Lib.hid hxs
  have OK := Lib.hid ok
  clear hc hx hxs lx ok
  have e1 : (p : Int) + m - 1 + 1 = (p : Int) + m := by omega
  rw [hm] at hm0
  clear hm hp
  go_enter Tryz.func105, Tryz.ntmps105
  go_wp2_with fail
  go_loop [5, 6] (fun nd at_ => ∃ k : Nat, k ≤ m ∧ at_ = .int .i64 ((p + (m - k) : Nat) : Int) ∧ nd = .int .i64 (Pl.ndk t.post k)) (fun _ at_ => (intOf at_).toNat)
  case atStart => exact ⟨0, by omega, by simp, by rw [Pl.ndk_0]⟩
  case round =>
    obtain ⟨k, hk, rfl, rfl⟩ := hrel
    have hbd := Pl.ndk_bd (e := t.post) k (by rw [HM.out]; exact hk)
    by_cases hlt : k < m
    · have hpos := Pl.ndk_pos OK.out (k := k) (by rw [HM.out]; exact hlt)
      obtain ⟨s, es⟩ : ∃ s, t.post[t.post.length - 1 - k]? = some s := ⟨_, List.getElem?_eq_getElem (by have := HM.out; omega)⟩
      have hsg := span_get HXS.out (t := t) (k := k) (by rw [HM.out]; exact hlt)
      rw [es, HP.out, HM.out] at hsg
      have c1 : w.cell? ⟨b, off + (p + (m - 1 - k)), none⟩ = some (.int .i64 s) := HC.out _ _ (I64_get hsg)
      have hs := Pl.ndk_succ (e := t.post) (k := k) (by rw [HM.out]; exact hlt) es
      have HS := Lib.hid hs
      have ht := Pl.takes_bd s
      obtain ⟨q, hq⟩ : ∃ q : Nat, m = k + 1 + q := ⟨m - (k + 1), by omega⟩
      have e2 : p + (m - k) = p + q + 1 := by omega
      have e3 : m - 1 - k = q := by omega
      have e4 : m - (k + 1) = q := by omega
      rw [e2]
      rw [e3] at c1
      have e5 : (((p + q + 1 : Nat) : Int)) = (p : Int) + q + 1 := by omega
      rw [e5]
      have e6 : (p : Int) + q + 1 - 1 = ((p + q : Nat) : Int) := by omega
      have i0 : (0 : Int) ≤ ((p + q : Nat) : Int) := by omega
      have i1 : ((p + q : Nat) : Int) < (n : Int) := by omega
      generalize Pl.ndk t.post k = N at *
      have HQ := Lib.hid hq
      have E4 := Lib.hid e4
      clear hq e2 e3 e4 e5 es hsg hs
      go_wp2_with (first | (go_at_call 83; refine (spec_l9Takes _ _).mono ?_; rintro e w' ⟨rfl, rfl⟩))
      go_round
      case rel => exact ⟨k + 1, by omega, by rw [E4.out]; go_num, by rw [HS.out]⟩
      case measure => simp [intOf]; omega
    · obtain rfl : k = m := by omega
      have hz := Pl.ndk_end OK.out
      rw [HM.out] at hz
      rw [hz]
      rw [show p + (k - k) = p by omega]
      clear hz hbd
      go_wp2
      go_ret
      exact ⟨rfl, rfl⟩
/-- Parts of a slice that reads as a list. -/
theorem Rd.take {w : World} {B n : Nat} {A : Option Addr} {xs : List Value} (h : Rd w B A n xs) {k : Nat} (hk : k ≤ n) : Rd w B A k (xs.take k) := by
  refine ⟨by rw [List.length_take, h.1]; omega, ?_⟩
  rcases h.2 with h0 | ⟨b, off, e, hb, hc⟩
  · exact .inl (by omega)
  · refine .inr ⟨b, off, e, hb, fun j u hu => hc j u ?_⟩
    rw [List.getElem?_take] at hu
    split at hu
    · exact hu
    · cases hu
theorem Rd.drop {w : World} {B n b off : Nat} {xs : List Value} (h : Rd w B (some ⟨b, off, none⟩) n xs) {k : Nat} (hk : k < n) : Rd w B (some ⟨b, off + k, none⟩) (n - k) (xs.drop k) := by
  refine ⟨by rw [List.length_drop, h.1], .inr ⟨b, off + k, rfl, ?_, fun j u hu => ?_⟩⟩
  · rcases h.2 with h0 | ⟨b', off', e, hb, hc⟩
    · omega
    · injection e with e; injection e with e1 e2; subst e1; exact hb
  · rcases h.2 with h0 | ⟨b', off', e, hb, hc⟩
    · omega
    · injection e with e
      injection e with e1 e2
      subst e1
      subst e2
      rw [Nat.add_assoc]
      exact hc _ u (by rw [← hu, List.getElem?_drop])
def OutH (A A' : Option Addr) (n c n' c' : Nat) (w : World) (e : Ending) (w' : World) : Prop := e = .returned (.tuple #[.slice A n c, .slice A' n' c']) ∧ ∃ q, w' = w.drewN q
set_option maxHeartbeats 1000000 in
theorem spec_l9Halves (b off n c B p m : Nat) (s : Int) (l r : Pl.Tr) (w : World) (hx : Rd w B (some ⟨b, off, none⟩) n (I64 (l.post ++ r.post ++ [s]))) (hn : n ≤ 1000000) (hnc : n ≤ c) (ok : r.ok) (hp : l.post.length = p) (hm : r.post.length = m) :
    Calls Tryz.prog 84 #[.slice (some ⟨b, off, none⟩) n c] w (OutH (some ⟨b, off, none⟩) (some ⟨b, off + p, none⟩) p c m (c - p) w) := by
  have hlen : n = p + m + 1 := by have := hx.len; rw [I64_len] at this; simp at this; omega
  subst hlen
  have hsp := fun w' h => spec_l9Span (some ⟨b, off, none⟩) (p + m + 1) c B p m _ l.post [s] r w' h hn ok rfl hp hm
  have HSP := Lib.hid hsp
  have HX := Lib.hid hx
  clear hx hsp hp hm
  have k1 : ((p + m + 1 : Nat) : Int) = (p : Int) + m + 1 := by omega
  have k2 : (p : Int) + m + 1 - 1 = ((p + m : Nat) : Int) := by omega
  have k3 : ((p + m : Nat) : Int) - 1 = (p : Int) + m - 1 := by omega
  have k4 : (p : Int) ≤ (c : Int) := by omega
  have k5 : (0 : Int) ≤ (p : Int) := by omega
  have k6 : (p : Int) ≤ ((p + m : Nat) : Int) := by omega
  have k7 : ((p + m : Nat) : Int) ≤ (c : Int) := by omega
  have k8 : ¬ c = p := by omega
  have k9 : p + m - p = m := by omega
  go_enter Tryz.func84, Tryz.ntmps84
  go_wp2_with fail
  refine (HSP.out _ HX.out).mono ?_
  rintro e w' ⟨rfl, rfl⟩
  go_wp2_with fail
  go_quiet (fail)
  go_wp2_with fail
  go_ret2
  exact ⟨by show Ending.returned (.tuple #[.slice (some ⟨b, off, none⟩) p c, .slice (some ⟨b, off + p, none⟩) (p + m - p) (c - p)]) = _; rw [k9], _, rfl⟩
/-- A digit. -/
def digCh (k : Nat) : UInt8 := UInt8.ofNat (48 + k)
theorem digCh_nat {k : Nat} (h : k < 10) : (digCh k).toNat = 48 + k := by unfold digCh; simp; omega
/-- A number as a text. -/
def dec (n : Nat) : List UInt8 := if n < 10 then [digCh n] else dec (n / 10) ++ [digCh (n % 10)]
theorem dec_1 {n : Nat} (h : n < 10) : dec n = [digCh n] := by rw [dec, if_pos h]
theorem dec_2 {n : Nat} (h : 10 ≤ n) : dec n = dec (n / 10) ++ [digCh (n % 10)] := by rw [dec, if_neg (by omega)]
/-- What a text comes out as: memory may have been made. -/
def OutB (x : List UInt8) (w : World) (e : Ending) (w' : World) : Prop := e = .returned (.string (Ba x)) ∧ Below w.heap.size w w'
theorem conv_digit (W : World) (b k cap : Nat) (v : Int) (hv : v = 48 + (k : Int)) (hk : k < 10) (hc : W.cell? ⟨b, 0, none⟩ = some (.int .u8 v)) :
    (convert 22 9 (.slice (some ⟨b, 0, none⟩) 1 cap)).run Tryz.prog W = .ok (.string (Ba [digCh k])) W := by
  subst hv
  refine Go.Lib.run_convert_whole W 22 5 9 Tryz.underlying22 Tryz.underlying5 Tryz.underlying9 b 0 (Ba [digCh k]) (fun i hi => ?_) cap
  have hi : i < 1 := hi
  obtain rfl : i = 0 := by omega
  rw [hc]
  have e1 := digCh_nat hk
  show some (Value.int .u8 (48 + (k : Int))) = some (Value.int .u8 ((digCh k).toNat : Int))
  rw [e1]
  congr 2
set_option maxRecDepth 100000 in
set_option maxHeartbeats 1000000 in
theorem spec_l1Number_1 (n : Nat) (w : World) (h : n < 10) : Calls Tryz.prog 27 #[.int .i64 n] w (OutB (dec n) w) := by
  have HD := Lib.hid (dec_1 h)
  have k1 : (0 : Int) ≤ (n : Int) := by omega
  have k2 : (n : Int) < 10 := by omega
  have k3 : decide ((n : Int) < 0) = false := by simp
  have kc := fun (W : World) (b cap : Nat) (hc : W.cell? ⟨b, 0, none⟩ = some (.int .u8 (48 + (n : Int)))) => conv_digit W b n cap _ rfl h hc
  go_enter Tryz.func27, Tryz.ntmps27
  go_wp2_with fail
  go_ret
  exact ⟨by rw [HD.out]; rfl, (Below.refl _ _).alloc (Nat.le_refl _) _⟩
theorem dec_len_pos (n : Nat) : 0 < (dec n).length := by
  by_cases h : n < 10
  · rw [dec_1 h]; simp
  · rw [dec_2 (by omega)]; simp
theorem dec_len : ∀ (k n : Nat), n < 10 ^ (k + 1) → (dec n).length ≤ k + 1
  | 0, n, h => by rw [dec_1 (by simpa using h)]; simp
  | k + 1, n, h => by
    by_cases h1 : n < 10
    · rw [dec_1 h1]; simp
    · rw [dec_2 (by omega), List.length_append]
      have := dec_len k (n / 10) (by rw [Nat.div_lt_iff_lt_mul (by decide)]; rw [Nat.pow_succ] at h; exact h)
      simp; omega
set_option maxRecDepth 100000 in
set_option maxHeartbeats 1000000 in
theorem spec_l1Number (k : Nat) : ∀ (n : Nat) (w : World), k ≤ 3 → n < 10 ^ (k + 1) → Calls Tryz.prog 27 #[.int .i64 n] w (OutB (dec n) w) := by
  induction k with
  | zero => intro n w hk h; exact spec_l1Number_1 n w (by simpa using h)
  | succ k ih =>
    intro n w hk h
    by_cases h1 : n < 10
    · exact spec_l1Number_1 n w h1
    · skip
      have hd := dec_2 (n := n) (by omega)
      have hq0 : n / 10 < 10 ^ (k + 1) := by rw [Nat.div_lt_iff_lt_mul (by decide)]; rw [Nat.pow_succ] at h; exact h
      have k2 : (n : Int) < 100000 := by
        have : 10 ^ (k + 1 + 1) ≤ 10 ^ 5 := Nat.pow_le_pow_right (by decide) (by omega)
        omega
      obtain ⟨q, hq⟩ : ∃ q, q = n / 10 := ⟨_, rfl⟩
      obtain ⟨r, hr⟩ : ∃ r, r = n % 10 := ⟨_, rfl⟩
      rw [← hq, ← hr] at hd
      rw [← hq] at hq0
      have hdl := dec_len k q hq0
      have IH := Lib.hid (fun w => ih q w (by omega) hq0)
      have HD := Lib.hid hd
      have k1 : (10 : Int) ≤ (n : Int) := by omega
      have k3 : decide ((n : Int) < 0) = false := by simp
      have k4 : (n : Int) / 10 = (q : Int) := by omega
      have k5 : (n : Int) % 10 = (r : Int) := by omega
      have k6 : r < 10 := by omega
      have k7 : (0 : Int) ≤ (r : Int) := by omega
      have k8 : (r : Int) < 10 := by omega
      have kc := fun (W : World) (b cap : Nat) (hc : W.cell? ⟨b, 0, none⟩ = some (.int .u8 (48 + (r : Int)))) => conv_digit W b r cap _ rfl k6 hc
      have ka := fun w => add_Ba (P := Tryz.prog) (dec q) [digCh r] (by simp; omega) w
      clear hd hdl h h1 hq hr hq0 ih
      have k9 : ¬ (n : Int) < 10 := by omega
      have k10 : ¬ (n : Int) < 0 := by omega
      have J2 := Lib.hid (show (n : Int).tmod 10 = r by rw [Int.tmod_eq_emod_of_nonneg (by omega)]; exact k5)
      have J3 := Lib.hid (show IntKind.i64.wrap (48 + (r : Int)) = 48 + r from IntWalk.i64_in _ (by omega))
      have J4 := Lib.hid (show IntKind.u8.wrap (48 + (r : Int)) = 48 + r by rcases (by omega : r = 0 ∨ r = 1 ∨ r = 2 ∨ r = 3 ∨ r = 4 ∨ r = 5 ∨ r = 6 ∨ r = 7 ∨ r = 8 ∨ r = 9) with rfl | rfl | rfl | rfl | rfl | rfl | rfl | rfl | rfl | rfl <;> rfl)
      clear k7 k8 k6
      go_enter Tryz.func27, Tryz.ntmps27
      go_upto_region 1 with (fail)
      go_wp2_with fail
      have j1 : IntKind.i64.wrap (q : Int) = q := IntWalk.i64_in _ (by omega)
      have j2 : (n : Int).tmod 10 = r := J2.out
      have j3 : IntKind.i64.wrap (48 + (r : Int)) = 48 + r := J3.out
      have j4 : IntKind.u8.wrap (48 + (r : Int)) = 48 + r := J4.out
      go_region_with (first | (go_at_call 27; refine (IH.out _).mono ?_; rintro e w1 ⟨rfl, hb1⟩; have hc1 := (bcell hb1).1))
      all_goals go_wp2
      all_goals go_ret
      all_goals refine ⟨by rw [HD.out]; rfl, ?_⟩
      all_goals first
        | exact ((Below.refl w.heap.size w).drew.trans hb1).alloc hb1.size _
        | exact ((Below.refl w.heap.size w).alloc (Nat.le_refl _) _).drew.trans (hb1.mono (by simp))
end Go.Proofs.YtamhpgledbmnoaaGreatDoor
namespace Go.Proofs.YtamhpgledbmnoaaGreatDoor
set_option linter.unusedVariables false
set_option linter.unusedSimpArgs false
open Go.RowKit
theorem tree_le (t : Pl.Tr) (b : Bool) (h : t.post.length ≤ 1000000) : (Pl.brk b t.txt).length ≤ 3000000 := by
  have h1 := Pl.txt_len t
  have h2 := Pl.brk_len b t.txt
  omega
theorem below_d0 {w w1 : World} (h : Below w.drew.heap.size w.drew w1) : Below w.heap.size w w1 := (Below.refl w.heap.size w).drew.trans h
theorem below_d1 {w w1 : World} {o : Obj} (h : Below (w.alloc o).drew.heap.size (w.alloc o).drew w1) : Below w.heap.size w w1 := ((Below.refl w.heap.size w).alloc (Nat.le_refl _) o).drew.trans (h.mono (by simp))
/-- What a walk over a binary step is told. -/
structure BinW (s : Int) (l r : Pl.Tr) (b off c B p m : Nat) (w : World) : Prop where
  hp0 : 0 < p
  hm0 : 0 < m
  hlen : p + m + 1 ≤ 1000000
  hnc : p + m + 1 ≤ c
  hB : B ≤ w.heap.size
  hbl : b < B
  c0 : w.cell? ⟨b, off + (p + m), none⟩ = some (.int .i64 s)
  cl : w.cell? ⟨b, off + (p - 1), none⟩ = some (.int .i64 l.top)
  hxl : Rd w B (some ⟨b, off, none⟩) p (I64 l.post)
  hxr : Rd w B (some ⟨b, off + p, none⟩) m (I64 r.post)
  halves : Calls Tryz.prog 84 #[.slice (some ⟨b, off, none⟩) (p + m + 1) c] w (OutH (some ⟨b, off, none⟩) (some ⟨b, off + p, none⟩) p c m (c - p) w)
theorem binW {s : Int} {l r : Pl.Tr} {b off n c B : Nat} {w : World} (hx : Rd w B (some ⟨b, off, none⟩) n (I64 (Pl.Tr.bin s l r).post)) (hnc : n ≤ c) (hB : B ≤ w.heap.size) (ok2 : r.ok) (hlen : (Pl.Tr.bin s l r).post.length ≤ 1000000) :
    n = l.post.length + r.post.length + 1 ∧ BinW s l r b off c B l.post.length r.post.length w := by
  obtain ⟨p, hp⟩ : ∃ p, l.post.length = p := ⟨_, rfl⟩
  obtain ⟨m, hm⟩ : ∃ m, r.post.length = m := ⟨_, rfl⟩
  have hp0 := l.post_pos
  have hm0 := r.post_pos
  rw [hp] at hp0
  rw [hm] at hm0
  obtain rfl : n = p + m + 1 := by have := hx.len; rw [I64_len] at this; simp [Pl.Tr.post, hp, hm] at this; omega
  obtain ⟨_, _, e, hbl, hc⟩ := hx.pos (by omega)
  injection e with e; injection e with e1 e2; subst e1; subst e2
  have c0 : w.cell? ⟨b, off + (p + m), none⟩ = some (.int .i64 s) := hc (p + m) _ (by simp [Pl.Tr.post, I64, hp, hm])
  have hxl : Rd w B (some ⟨b, off, none⟩) p (I64 l.post) := by
    have := hx.take (k := p) (by omega)
    simpa [Pl.Tr.post, I64, hp] using this
  have hxr : Rd w B (some ⟨b, off + p, none⟩) m (I64 r.post) := by
    have := (hx.drop (k := p) (by omega)).take (k := m) (by omega)
    simpa [Pl.Tr.post, I64, hp, hm, List.drop_append] using this
  have cl : w.cell? ⟨b, off + (p - 1), none⟩ = some (.int .i64 l.top) := by
    obtain ⟨q, hq⟩ := l.post_last
    have hql : q.length = p - 1 := by have := congrArg List.length hq; simp [hp] at this; omega
    obtain ⟨_, _, e, _, hc'⟩ := hxl.pos (by omega)
    injection e with e; injection e with e1 e2; subst e1; subst e2
    exact hc' (p - 1) _ (by rw [hq]; simp [I64, ← hql])
  have hlen' : p + m + 1 ≤ 1000000 := by simp [Pl.Tr.post, hp, hm] at hlen; omega
  subst hp
  subst hm
  exact ⟨rfl, hp0, hm0, hlen', hnc, hB, hbl, c0, cl, hxl, hxr, spec_l9Halves b off _ c B _ _ s l r w hx (by omega) hnc ok2 rfl rfl⟩
set_option maxRecDepth 100000 in
set_option maxHeartbeats 4000000 in
theorem text_binA (s : Int) (l r : Pl.Tr) (b off c B p m : Nat) (small : Bool) (w : World) (s0 : 15 ≤ s) (s1 : s ≤ 19) (H : BinW s l r b off c B p m w) (hbl0 : l.txt.length ≤ 3000000) (hbl1 : (Pl.brk (l.two s) l.txt).length ≤ 3000000) (hbr : (Pl.brk (r.two (-1)) r.txt).length ≤ 3000000)
    (ihl : ∀ (w : World), Rd w B (some ⟨b, off, none⟩) p (I64 l.post) → B ≤ w.heap.size → Calls Tryz.prog 60 #[.slice (some ⟨b, off, none⟩) p c, .bool false] w (OutB l.txt w))
    (ihr : ∀ (w : World), Rd w B (some ⟨b, off + p, none⟩) m (I64 r.post) → B ≤ w.heap.size → Calls Tryz.prog 60 #[.slice (some ⟨b, off + p, none⟩) m (c - p), .bool true] w (OutB (Pl.brk (r.two (-1)) r.txt) w))
    (ht : Pl.takes l.top = 2) (hne : l.top ≠ s) (htw : l.two s = true) :
    Calls Tryz.prog 60 #[.slice (some ⟨b, off, none⟩) (p + m + 1) c, .bool small] w (OutB (Pl.brk (small && (Pl.Tr.bin s l r).two (-1)) (Pl.Tr.bin s l r).txt) w) := by
  obtain ⟨hp0, hm0, hlen, hnc, hB, hbl, c0, cl, hxl, hxr, halves⟩ := H
  have hres : Pl.brk (small && (Pl.Tr.bin s l r).two (-1)) (Pl.Tr.bin s l r).txt = Pl.brk small (Pl.brk (l.two s) l.txt ++ Pl.signCh s :: Pl.brk (r.two (-1)) r.txt) := by
    have : (Pl.Tr.bin s l r).two (-1) = true := by simp [Pl.Tr.two]; omega
    rw [this, Bool.and_true]; rfl
  rw [hres]
  clear hres
  have IHL := Lib.hid ihl
  have IHR := Lib.hid ihr
  have HL := Lib.hid hxl
  have HR := Lib.hid hxr
  have HV := Lib.hid halves
  have k1 : ((p + m + 1 : Nat) : Int) = (p : Int) + m + 1 := by omega
  have k2 : (p : Int) + m + 1 - 1 = ((p + m : Nat) : Int) := by omega
  have k3 : (0 : Int) ≤ ((p + m : Nat) : Int) := by omega
  have k4 : ((p + m : Nat) : Int) < ((p + m + 1 : Nat) : Int) := by omega
  have k5 : (p : Int) - 1 = ((p - 1 : Nat) : Int) := by omega
  have k6 : (0 : Int) ≤ ((p - 1 : Nat) : Int) := by omega
  have k7 : ((p - 1 : Nat) : Int) < (p : Int) := by omega
  have ct := fun w => spec_l9Takes l.top w
  rw [ht] at ct
  have hnn : (l.top != s) = true := by simpa using hne
  have e40 : ∀ w, (Op.stringOp .add (⟨#[40]⟩ : ByteArray) (Ba l.txt)).run Tryz.prog w = .ok (.string (Ba (40 :: l.txt))) w := fun w => add_Ba (P := Tryz.prog) [40] l.txt (by simp only [List.length_cons, List.length_nil]; omega) w
  have e41 : ∀ w, (Op.stringOp .add (Ba (40 :: l.txt)) (⟨#[41]⟩ : ByteArray)).run Tryz.prog w = .ok (.string (Ba (Pl.brk (l.two s) l.txt))) w := fun w => by rw [htw]; exact add_Ba (P := Tryz.prog) (40 :: l.txt) [41] (by simp only [List.length_cons, List.length_nil]; omega) w
  clear htw hne
  generalize hX : Pl.brk (l.two s) l.txt = X at *
  generalize hY : Pl.brk (r.two (-1)) r.txt = Y at *
  obtain ⟨i, rfl⟩ : ∃ i : Nat, s = 15 + (i : Int) := ⟨(s - 15).toNat, by omega⟩
  have q1 : (15 : Int) + (i : Int) - 15 = (i : Int) := by omega
  have q2 : (i : Int) < 5 := by omega
  have q4 : IntKind.i64.wrap (15 + (i : Int) - 15) = (i : Int) := by rw [q1]; exact IntWalk.i64_in _ (by omega)
  have q5 : (0 : Int) ≤ (i : Int) := by omega
  have q6 : IntKind.i64.wrap (i : Int) = (i : Int) := IntWalk.i64_in _ (by omega)
  have q3 : i < 5 := by omega
  have hlit : ∀ h, ([Value.string ⟨#[43]⟩, .string ⟨#[45]⟩, .string ⟨#[38]⟩, .string ⟨#[124]⟩, .string ⟨#[94]⟩] : List Value)[i]'h = .string (Ba [Pl.signCh (15 + (i : Int))]) := by
    rcases (by omega : i = 0 ∨ i = 1 ∨ i = 2 ∨ i = 3 ∨ i = 4) with rfl | rfl | rfl | rfl | rfl <;> intro h <;> rfl
  generalize hS : Pl.signCh (15 + (i : Int)) = S at *
  clear hX hY hS halves hxl hxr ihl ihr
  obtain ⟨Z1, hZ1⟩ : ∃ Z, Z = X ++ [S] := ⟨_, rfl⟩
  obtain ⟨Z, hZ⟩ : ∃ Z, Z = Z1 ++ Y := ⟨_, rfl⟩
  have zl : Z1.length ≤ 4000000 := by rw [hZ1]; simp only [List.length_append, List.length_cons, List.length_nil]; omega
  have zl2 : Z.length ≤ 8000000 := by rw [hZ, List.length_append]; omega
  have hb1 : ∀ w, (Op.stringOp .add (Ba X) (Ba [S])).run Tryz.prog w = .ok (.string (Ba Z1)) w := fun w => by rw [hZ1]; exact add_Ba (P := Tryz.prog) X [S] (by simp only [List.length_cons, List.length_nil]; omega) w
  have hb2 : ∀ w, (Op.stringOp .add (Ba Z1) (Ba Y)).run Tryz.prog w = .ok (.string (Ba Z)) w := fun w => by rw [hZ]; exact add_Ba (P := Tryz.prog) Z1 Y (by omega) w
  have hb3 : ∀ w, (Op.stringOp .add (⟨#[40]⟩ : ByteArray) (Ba Z)).run Tryz.prog w = .ok (.string (Ba (40 :: Z))) w := fun w => add_Ba (P := Tryz.prog) [40] Z (by simp only [List.length_cons, List.length_nil]; omega) w
  have hb4 : ∀ w, (Op.stringOp .add (Ba (40 :: Z)) (⟨#[41]⟩ : ByteArray)).run Tryz.prog w = .ok (.string (Ba (Pl.brk true Z))) w := fun w => add_Ba (P := Tryz.prog) (40 :: Z) [41] (by simp only [List.length_cons, List.length_nil]; omega) w
  have HZ : Hid (X ++ S :: Y = Z) := Lib.hid (by rw [hZ, hZ1]; simp)
  clear hZ hZ1
  go_enter Tryz.func60, Tryz.ntmps60
  go_wp2_with fail
  refine (HV.out).mono ?_
  rintro e w' ⟨rfl, q, rfl⟩
  go_wp2_with fail
  refine (IHL.out _ (HL.out.drewN q) (by simp; omega)).mono ?_
  rintro e w1 ⟨rfl, hb0⟩
  have cl1 : w1.cell? ⟨b, off + (p - 1), none⟩ = some (.int .i64 l.top) := (hb0.cell (p := ⟨b, off + (p - 1), none⟩) (show b < _ by simp; omega)).trans (by simpa using cl)
  have hr1 := Lib.hid ((HR.out.drewN q).below (hb0.mono (by simp; omega)))
  have hz1 := hb0.size
  have hz1' : B ≤ w1.heap.size := by simp at hz1; omega
  have hz2 : w.heap.size ≤ w1.heap.size := by simpa using hz1
  have HB0 := Lib.hid ((below_drewN (Below.refl w.heap.size w) q).trans (hb0.mono (by simp)))
  go_upto_region 15 with ((go_at_call 83; refine (ct _).mono ?_; rintro e w' ⟨rfl, rfl⟩))
  go_cut [9] (fun s9 wx => s9 = .string (Ba Z) ∧ Below w1.heap.size w1 wx)
  case first =>
    go_region_with (first | (go_at_call 60; refine (IHR.out _ (by first | exact hr1.out | exact hr1.out.alloc hz1' _) (by first | exact hz1' | (simp; omega))).mono ?_; rintro e w3 ⟨rfl, hb3'⟩; have hc3 := (bcell hb3').1))
    all_goals go_wp2_with fail
    all_goals go_meet
    all_goals first
      | exact ⟨rfl, (below_d0 hb3').alloc (below_d0 hb3').size _⟩
      | exact ⟨rfl, below_d1 hb3'⟩
  case rest =>
    obtain ⟨rfl, hb9⟩ := hcut
    have HB := (HB0.out).trans (hb9.mono hz2)
    cases small
    all_goals go_wp2
    all_goals go_ret
    all_goals rw [HZ.out]
    all_goals exact ⟨rfl, HB⟩
set_option maxRecDepth 100000 in
set_option maxHeartbeats 4000000 in
theorem text_binB (s : Int) (l r : Pl.Tr) (b off c B p m : Nat) (small : Bool) (w : World) (s0 : 15 ≤ s) (s1 : s ≤ 19) (H : BinW s l r b off c B p m w) (hbl0 : l.txt.length ≤ 3000000) (hbl1 : (Pl.brk (l.two s) l.txt).length ≤ 3000000) (hbr : (Pl.brk (r.two (-1)) r.txt).length ≤ 3000000)
    (ihl : ∀ (w : World), Rd w B (some ⟨b, off, none⟩) p (I64 l.post) → B ≤ w.heap.size → Calls Tryz.prog 60 #[.slice (some ⟨b, off, none⟩) p c, .bool false] w (OutB l.txt w))
    (ihr : ∀ (w : World), Rd w B (some ⟨b, off + p, none⟩) m (I64 r.post) → B ≤ w.heap.size → Calls Tryz.prog 60 #[.slice (some ⟨b, off + p, none⟩) m (c - p), .bool true] w (OutB (Pl.brk (r.two (-1)) r.txt) w))
    (ht : Pl.takes l.top = 2) (hne : l.top = s) (htw : l.two s = false) :
    Calls Tryz.prog 60 #[.slice (some ⟨b, off, none⟩) (p + m + 1) c, .bool small] w (OutB (Pl.brk (small && (Pl.Tr.bin s l r).two (-1)) (Pl.Tr.bin s l r).txt) w) := by
  obtain ⟨hp0, hm0, hlen, hnc, hB, hbl, c0, cl, hxl, hxr, halves⟩ := H
  have hres : Pl.brk (small && (Pl.Tr.bin s l r).two (-1)) (Pl.Tr.bin s l r).txt = Pl.brk small (Pl.brk (l.two s) l.txt ++ Pl.signCh s :: Pl.brk (r.two (-1)) r.txt) := by
    have : (Pl.Tr.bin s l r).two (-1) = true := by simp [Pl.Tr.two]; omega
    rw [this, Bool.and_true]; rfl
  rw [hres]
  clear hres
  have IHL := Lib.hid ihl
  have IHR := Lib.hid ihr
  have HL := Lib.hid hxl
  have HR := Lib.hid hxr
  have HV := Lib.hid halves
  have k1 : ((p + m + 1 : Nat) : Int) = (p : Int) + m + 1 := by omega
  have k2 : (p : Int) + m + 1 - 1 = ((p + m : Nat) : Int) := by omega
  have k3 : (0 : Int) ≤ ((p + m : Nat) : Int) := by omega
  have k4 : ((p + m : Nat) : Int) < ((p + m + 1 : Nat) : Int) := by omega
  have k5 : (p : Int) - 1 = ((p - 1 : Nat) : Int) := by omega
  have k6 : (0 : Int) ≤ ((p - 1 : Nat) : Int) := by omega
  have k7 : ((p - 1 : Nat) : Int) < (p : Int) := by omega
  have ct := fun w => spec_l9Takes l.top w
  rw [ht] at ct
  have eX : Pl.brk (l.two s) l.txt = l.txt := by rw [htw]; rfl
  rw [← eX] at ihl
  have IHL := Lib.hid ihl
  rw [hne] at cl ct
  have hnn : (s != s) = false := by simp
  clear htw eX
  generalize hX : Pl.brk (l.two s) l.txt = X at *
  generalize hY : Pl.brk (r.two (-1)) r.txt = Y at *
  obtain ⟨i, rfl⟩ : ∃ i : Nat, s = 15 + (i : Int) := ⟨(s - 15).toNat, by omega⟩
  have q1 : (15 : Int) + (i : Int) - 15 = (i : Int) := by omega
  have q2 : (i : Int) < 5 := by omega
  have q4 : IntKind.i64.wrap (15 + (i : Int) - 15) = (i : Int) := by rw [q1]; exact IntWalk.i64_in _ (by omega)
  have q5 : (0 : Int) ≤ (i : Int) := by omega
  have q6 : IntKind.i64.wrap (i : Int) = (i : Int) := IntWalk.i64_in _ (by omega)
  have q3 : i < 5 := by omega
  have hlit : ∀ h, ([Value.string ⟨#[43]⟩, .string ⟨#[45]⟩, .string ⟨#[38]⟩, .string ⟨#[124]⟩, .string ⟨#[94]⟩] : List Value)[i]'h = .string (Ba [Pl.signCh (15 + (i : Int))]) := by
    rcases (by omega : i = 0 ∨ i = 1 ∨ i = 2 ∨ i = 3 ∨ i = 4) with rfl | rfl | rfl | rfl | rfl <;> intro h <;> rfl
  generalize hS : Pl.signCh (15 + (i : Int)) = S at *
  clear hX hY hS halves hxl hxr ihl ihr
  obtain ⟨Z1, hZ1⟩ : ∃ Z, Z = X ++ [S] := ⟨_, rfl⟩
  obtain ⟨Z, hZ⟩ : ∃ Z, Z = Z1 ++ Y := ⟨_, rfl⟩
  have zl : Z1.length ≤ 4000000 := by rw [hZ1]; simp only [List.length_append, List.length_cons, List.length_nil]; omega
  have zl2 : Z.length ≤ 8000000 := by rw [hZ, List.length_append]; omega
  have hb1 : ∀ w, (Op.stringOp .add (Ba X) (Ba [S])).run Tryz.prog w = .ok (.string (Ba Z1)) w := fun w => by rw [hZ1]; exact add_Ba (P := Tryz.prog) X [S] (by simp only [List.length_cons, List.length_nil]; omega) w
  have hb2 : ∀ w, (Op.stringOp .add (Ba Z1) (Ba Y)).run Tryz.prog w = .ok (.string (Ba Z)) w := fun w => by rw [hZ]; exact add_Ba (P := Tryz.prog) Z1 Y (by omega) w
  have hb3 : ∀ w, (Op.stringOp .add (⟨#[40]⟩ : ByteArray) (Ba Z)).run Tryz.prog w = .ok (.string (Ba (40 :: Z))) w := fun w => add_Ba (P := Tryz.prog) [40] Z (by simp only [List.length_cons, List.length_nil]; omega) w
  have hb4 : ∀ w, (Op.stringOp .add (Ba (40 :: Z)) (⟨#[41]⟩ : ByteArray)).run Tryz.prog w = .ok (.string (Ba (Pl.brk true Z))) w := fun w => add_Ba (P := Tryz.prog) (40 :: Z) [41] (by simp only [List.length_cons, List.length_nil]; omega) w
  have HZ : Hid (X ++ S :: Y = Z) := Lib.hid (by rw [hZ, hZ1]; simp)
  clear hZ hZ1
  go_enter Tryz.func60, Tryz.ntmps60
  go_wp2_with fail
  refine (HV.out).mono ?_
  rintro e w' ⟨rfl, q, rfl⟩
  go_wp2_with fail
  refine (IHL.out _ (HL.out.drewN q) (by simp; omega)).mono ?_
  rintro e w1 ⟨rfl, hb0⟩
  have cl1 : w1.cell? ⟨b, off + (p - 1), none⟩ = some (.int .i64 (15 + (i : Int))) := (hb0.cell (p := ⟨b, off + (p - 1), none⟩) (show b < _ by simp; omega)).trans (by simpa using cl)
  have hr1 := Lib.hid ((HR.out.drewN q).below (hb0.mono (by simp; omega)))
  have hz1 := hb0.size
  have hz1' : B ≤ w1.heap.size := by simp at hz1; omega
  have hz2 : w.heap.size ≤ w1.heap.size := by simpa using hz1
  have HB0 := Lib.hid ((below_drewN (Below.refl w.heap.size w) q).trans (hb0.mono (by simp)))
  go_upto_region 15 with ((go_at_call 83; refine (ct _).mono ?_; rintro e w' ⟨rfl, rfl⟩))
  go_cut [9] (fun s9 wx => s9 = .string (Ba Z) ∧ Below w1.heap.size w1 wx)
  case first =>
    go_region_with (first | (go_at_call 60; refine (IHR.out _ (by first | exact hr1.out | exact hr1.out.alloc hz1' _) (by first | exact hz1' | (simp; omega))).mono ?_; rintro e w3 ⟨rfl, hb3'⟩; have hc3 := (bcell hb3').1))
    all_goals go_wp2_with fail
    all_goals go_meet
    all_goals first
      | exact ⟨rfl, (below_d0 hb3').alloc (below_d0 hb3').size _⟩
      | exact ⟨rfl, below_d1 hb3'⟩
  case rest =>
    obtain ⟨rfl, hb9⟩ := hcut
    have HB := (HB0.out).trans (hb9.mono hz2)
    cases small
    all_goals go_wp2
    all_goals go_ret
    all_goals rw [HZ.out]
    all_goals exact ⟨rfl, HB⟩
set_option maxRecDepth 100000 in
set_option maxHeartbeats 4000000 in
theorem text_binC (s : Int) (l r : Pl.Tr) (b off c B p m : Nat) (small : Bool) (w : World) (s0 : 15 ≤ s) (s1 : s ≤ 19) (H : BinW s l r b off c B p m w) (hbl0 : l.txt.length ≤ 3000000) (hbl1 : (Pl.brk (l.two s) l.txt).length ≤ 3000000) (hbr : (Pl.brk (r.two (-1)) r.txt).length ≤ 3000000)
    (ihl : ∀ (w : World), Rd w B (some ⟨b, off, none⟩) p (I64 l.post) → B ≤ w.heap.size → Calls Tryz.prog 60 #[.slice (some ⟨b, off, none⟩) p c, .bool false] w (OutB l.txt w))
    (ihr : ∀ (w : World), Rd w B (some ⟨b, off + p, none⟩) m (I64 r.post) → B ≤ w.heap.size → Calls Tryz.prog 60 #[.slice (some ⟨b, off + p, none⟩) m (c - p), .bool true] w (OutB (Pl.brk (r.two (-1)) r.txt) w))
    (ht : Pl.takes l.top ≠ 2) (htw : l.two s = false) :
    Calls Tryz.prog 60 #[.slice (some ⟨b, off, none⟩) (p + m + 1) c, .bool small] w (OutB (Pl.brk (small && (Pl.Tr.bin s l r).two (-1)) (Pl.Tr.bin s l r).txt) w) := by
  obtain ⟨hp0, hm0, hlen, hnc, hB, hbl, c0, cl, hxl, hxr, halves⟩ := H
  have hres : Pl.brk (small && (Pl.Tr.bin s l r).two (-1)) (Pl.Tr.bin s l r).txt = Pl.brk small (Pl.brk (l.two s) l.txt ++ Pl.signCh s :: Pl.brk (r.two (-1)) r.txt) := by
    have : (Pl.Tr.bin s l r).two (-1) = true := by simp [Pl.Tr.two]; omega
    rw [this, Bool.and_true]; rfl
  rw [hres]
  clear hres
  have IHL := Lib.hid ihl
  have IHR := Lib.hid ihr
  have HL := Lib.hid hxl
  have HR := Lib.hid hxr
  have HV := Lib.hid halves
  have k1 : ((p + m + 1 : Nat) : Int) = (p : Int) + m + 1 := by omega
  have k2 : (p : Int) + m + 1 - 1 = ((p + m : Nat) : Int) := by omega
  have k3 : (0 : Int) ≤ ((p + m : Nat) : Int) := by omega
  have k4 : ((p + m : Nat) : Int) < ((p + m + 1 : Nat) : Int) := by omega
  have k5 : (p : Int) - 1 = ((p - 1 : Nat) : Int) := by omega
  have k6 : (0 : Int) ≤ ((p - 1 : Nat) : Int) := by omega
  have k7 : ((p - 1 : Nat) : Int) < (p : Int) := by omega
  have ct := fun w => spec_l9Takes l.top w
  have ht' : (Pl.takes l.top == 2) = false := by simpa using ht
  have eX : Pl.brk (l.two s) l.txt = l.txt := by rw [htw]; rfl
  rw [← eX] at ihl
  have IHL := Lib.hid ihl
  clear htw eX
  generalize hX : Pl.brk (l.two s) l.txt = X at *
  generalize hY : Pl.brk (r.two (-1)) r.txt = Y at *
  obtain ⟨i, rfl⟩ : ∃ i : Nat, s = 15 + (i : Int) := ⟨(s - 15).toNat, by omega⟩
  have q1 : (15 : Int) + (i : Int) - 15 = (i : Int) := by omega
  have q2 : (i : Int) < 5 := by omega
  have q4 : IntKind.i64.wrap (15 + (i : Int) - 15) = (i : Int) := by rw [q1]; exact IntWalk.i64_in _ (by omega)
  have q5 : (0 : Int) ≤ (i : Int) := by omega
  have q6 : IntKind.i64.wrap (i : Int) = (i : Int) := IntWalk.i64_in _ (by omega)
  have q3 : i < 5 := by omega
  have hlit : ∀ h, ([Value.string ⟨#[43]⟩, .string ⟨#[45]⟩, .string ⟨#[38]⟩, .string ⟨#[124]⟩, .string ⟨#[94]⟩] : List Value)[i]'h = .string (Ba [Pl.signCh (15 + (i : Int))]) := by
    rcases (by omega : i = 0 ∨ i = 1 ∨ i = 2 ∨ i = 3 ∨ i = 4) with rfl | rfl | rfl | rfl | rfl <;> intro h <;> rfl
  generalize hS : Pl.signCh (15 + (i : Int)) = S at *
  clear hX hY hS halves hxl hxr ihl ihr
  obtain ⟨Z1, hZ1⟩ : ∃ Z, Z = X ++ [S] := ⟨_, rfl⟩
  obtain ⟨Z, hZ⟩ : ∃ Z, Z = Z1 ++ Y := ⟨_, rfl⟩
  have zl : Z1.length ≤ 4000000 := by rw [hZ1]; simp only [List.length_append, List.length_cons, List.length_nil]; omega
  have zl2 : Z.length ≤ 8000000 := by rw [hZ, List.length_append]; omega
  have hb1 : ∀ w, (Op.stringOp .add (Ba X) (Ba [S])).run Tryz.prog w = .ok (.string (Ba Z1)) w := fun w => by rw [hZ1]; exact add_Ba (P := Tryz.prog) X [S] (by simp only [List.length_cons, List.length_nil]; omega) w
  have hb2 : ∀ w, (Op.stringOp .add (Ba Z1) (Ba Y)).run Tryz.prog w = .ok (.string (Ba Z)) w := fun w => by rw [hZ]; exact add_Ba (P := Tryz.prog) Z1 Y (by omega) w
  have hb3 : ∀ w, (Op.stringOp .add (⟨#[40]⟩ : ByteArray) (Ba Z)).run Tryz.prog w = .ok (.string (Ba (40 :: Z))) w := fun w => add_Ba (P := Tryz.prog) [40] Z (by simp only [List.length_cons, List.length_nil]; omega) w
  have hb4 : ∀ w, (Op.stringOp .add (Ba (40 :: Z)) (⟨#[41]⟩ : ByteArray)).run Tryz.prog w = .ok (.string (Ba (Pl.brk true Z))) w := fun w => add_Ba (P := Tryz.prog) (40 :: Z) [41] (by simp only [List.length_cons, List.length_nil]; omega) w
  have HZ : Hid (X ++ S :: Y = Z) := Lib.hid (by rw [hZ, hZ1]; simp)
  clear hZ hZ1
  go_enter Tryz.func60, Tryz.ntmps60
  go_wp2_with fail
  refine (HV.out).mono ?_
  rintro e w' ⟨rfl, q, rfl⟩
  go_wp2_with fail
  refine (IHL.out _ (HL.out.drewN q) (by simp; omega)).mono ?_
  rintro e w1 ⟨rfl, hb0⟩
  have cl1 : w1.cell? ⟨b, off + (p - 1), none⟩ = some (.int .i64 l.top) := (hb0.cell (p := ⟨b, off + (p - 1), none⟩) (show b < _ by simp; omega)).trans (by simpa using cl)
  have hr1 := Lib.hid ((HR.out.drewN q).below (hb0.mono (by simp; omega)))
  have hz1 := hb0.size
  have hz1' : B ≤ w1.heap.size := by simp at hz1; omega
  have hz2 : w.heap.size ≤ w1.heap.size := by simpa using hz1
  have HB0 := Lib.hid ((below_drewN (Below.refl w.heap.size w) q).trans (hb0.mono (by simp)))
  go_upto_region 15 with ((go_at_call 83; refine (ct _).mono ?_; rintro e w' ⟨rfl, rfl⟩))
  go_cut [9] (fun s9 wx => s9 = .string (Ba Z) ∧ Below w1.heap.size w1 wx)
  case first =>
    go_region_with (first | (go_at_call 60; refine (IHR.out _ (by first | exact hr1.out | exact hr1.out.alloc hz1' _) (by first | exact hz1' | (simp; omega))).mono ?_; rintro e w3 ⟨rfl, hb3'⟩; have hc3 := (bcell hb3').1))
    all_goals go_wp2_with fail
    all_goals go_meet
    all_goals first
      | exact ⟨rfl, (below_d0 hb3').alloc (below_d0 hb3').size _⟩
      | exact ⟨rfl, below_d1 hb3'⟩
  case rest =>
    obtain ⟨rfl, hb9⟩ := hcut
    have HB := (HB0.out).trans (hb9.mono hz2)
    cases small
    all_goals go_wp2
    all_goals go_ret
    all_goals rw [HZ.out]
    all_goals exact ⟨rfl, HB⟩
end Go.Proofs.YtamhpgledbmnoaaGreatDoor
namespace Go.Proofs.YtamhpgledbmnoaaGreatDoor
set_option linter.unusedVariables false
set_option linter.unusedSimpArgs false
open Go.RowKit
theorem small_text (t : Pl.Tr) (ok : t.ok) (b : Bool) (hb : Pl.takes t.top ≠ 2) : Pl.brk (b && t.two (-1)) t.txt = t.txt := by
  have : t.two (-1) = false := by
    cases hq : t.two (-1) with
    | false => rfl
    | true => exact absurd ((two_takes t ok (-1)).1 hq).1 hb
  rw [this, Bool.and_false]; rfl
set_option maxRecDepth 100000 in
set_option maxHeartbeats 4000000 in
theorem spec_l9Text : ∀ (t : Pl.Tr), t.ok → t.post.length ≤ 1000000 → ∀ (b off n c B : Nat) (small : Bool) (w : World), Rd w B (some ⟨b, off, none⟩) n (I64 t.post) → n ≤ c → B ≤ w.heap.size →
    Calls Tryz.prog 60 #[.slice (some ⟨b, off, none⟩) n c, .bool small] w (OutB (Pl.brk (small && t.two (-1)) t.txt) w)
  | .leaf s, ok, hlen, b, off, n, c, B, small, w, hx, hnc, hB => by
    have hst := Lib.hid (small_text (.leaf s) ok small (by have := Pl.takes_0 ok.2; show Pl.takes s ≠ 2; omega))
    obtain ⟨s0, s1⟩ := ok
    obtain rfl : n = 1 := by have := hx.len; rw [I64_len] at this; simpa [Pl.Tr.post] using this.symm
    obtain ⟨_, _, e, hbl, hc⟩ := hx.pos (by omega)
    injection e with e; injection e with e1 e2; subst e1; subst e2
    have c0 : w.cell? ⟨b, off, none⟩ = some (.int .i64 s) := hc 0 _ rfl
    clear hc hx
    by_cases h9 : s ≤ 9
    · obtain ⟨k, rfl⟩ := Int.eq_ofNat_of_zero_le s0
      have hd : dec k = (Pl.Tr.leaf (k : Int)).txt := by
        rcases (by omega : k = 0 ∨ k = 1 ∨ k = 2 ∨ k = 3 ∨ k = 4 ∨ k = 5 ∨ k = 6 ∨ k = 7 ∨ k = 8 ∨ k = 9) with rfl | rfl | rfl | rfl | rfl | rfl | rfl | rfl | rfl | rfl <;> rw [dec_1 (by omega)] <;> rfl
      have HD := Lib.hid hd
      have HK := Lib.hid (fun w => spec_l1Number_1 k w (by omega))
      clear hd s1 hlen
      go_enter Tryz.func60, Tryz.ntmps60
      go_wp2_with fail
      refine (HK.out _).mono ?_
      rintro e w' ⟨rfl, hb1⟩
      go_wp2_with fail
      go_ret
      rw [hst.out]
      exact ⟨by rw [HD.out]; rfl, hb1⟩
    · rcases (by omega : s = 10 ∨ s = 11) with rfl | rfl
      all_goals
        go_enter Tryz.func60, Tryz.ntmps60
        go_wp2_with fail
        go_ret
        rw [hst.out]
        exact ⟨rfl, Below.refl _ _⟩
  | .un s t, ok, hlen, b, off, n, c, B, small, w, hx, hnc, hB => by
    have hst := Lib.hid (small_text (.un s t) ok small (by have := Pl.takes_1 ok.1.1 ok.1.2; show Pl.takes s ≠ 2; omega))
    obtain ⟨⟨s0, s1⟩, ok1⟩ := ok
    obtain ⟨m, hm⟩ : ∃ m, t.post.length = m := ⟨_, rfl⟩
    obtain rfl : n = m + 1 := by have := hx.len; rw [I64_len] at this; simpa [Pl.Tr.post, hm] using this.symm
    obtain ⟨_, _, e, hbl, hc⟩ := hx.pos (by omega)
    injection e with e; injection e with e1 e2; subst e1; subst e2
    have c0 : w.cell? ⟨b, off + m, none⟩ = some (.int .i64 s) := hc m _ (by simp [Pl.Tr.post, I64, hm])
    have hx1 : Rd w B (some ⟨b, off, none⟩) m (I64 t.post) := by
      have := hx.take (k := m) (by omega)
      simpa [Pl.Tr.post, I64, hm] using this
    have hl1 : t.post.length ≤ 1000000 := by simp [Pl.Tr.post] at hlen; omega
    have hlm : m ≤ 1000000 := by omega
    have ih : ∀ (w : World), Rd w B (some ⟨b, off, none⟩) m (I64 t.post) → B ≤ w.heap.size → Calls Tryz.prog 60 #[.slice (some ⟨b, off, none⟩) m c, .bool true] w (OutB (Pl.brk (t.two (-1)) t.txt) w) :=
      fun w h h2 => spec_l9Text t ok1 hl1 b off m c B true w h (by omega) h2
    have hbt := tree_le t (t.two (-1)) hl1
    have IH := Lib.hid ih
    have HX := Lib.hid hx1
    have HM := Lib.hid hm
    have k1 : ((m + 1 : Nat) : Int) - 1 = (m : Int) := by omega
    have k2 : (0 : Int) ≤ (m : Int) := by omega
    have k3 : (m : Int) < (m : Int) + 1 := by omega
    have k4 : (m : Int) ≤ (c : Int) := by omega
    clear hc hx hlen hm hx1 ih
    rcases (by omega : s = 12 ∨ s = 13 ∨ s = 14) with rfl | rfl | rfl
    · have ha : ∀ w, (Op.stringOp .add (⟨#[126]⟩ : ByteArray) (Ba (Pl.brk (t.two (-1)) t.txt))).run Tryz.prog w = .ok (.string (Ba (126 :: Pl.brk (t.two (-1)) t.txt))) w := fun w => add_Ba (P := Tryz.prog) [126] (Pl.brk (t.two (-1)) t.txt) (by simp only [List.length_cons, List.length_nil]; omega) w
      go_enter Tryz.func60, Tryz.ntmps60
      go_wp2_with fail
      go_region_with (first | (go_at_call 60; refine (IH.out _ (by first | exact HX.out | exact HX.out.alloc hB _) (by first | exact hB | (simp; omega))).mono ?_; rintro e w1 ⟨rfl, hb1⟩; have hc1 := (bcell hb1).1))
      all_goals go_wp2
      all_goals go_ret
      all_goals rw [hst.out]
      all_goals refine ⟨rfl, ?_⟩
      all_goals first
        | exact ((Below.refl w.heap.size w).drew.trans hb1).alloc hb1.size _
        | exact ((Below.refl w.heap.size w).alloc (Nat.le_refl _) _).drew.trans (hb1.mono (by simp))
    · have ha : ∀ w, (Op.stringOp .add (⟨#[60]⟩ : ByteArray) (Ba (Pl.brk (t.two (-1)) t.txt))).run Tryz.prog w = .ok (.string (Ba (60 :: Pl.brk (t.two (-1)) t.txt))) w := fun w => add_Ba (P := Tryz.prog) [60] (Pl.brk (t.two (-1)) t.txt) (by simp only [List.length_cons, List.length_nil]; omega) w
      go_enter Tryz.func60, Tryz.ntmps60
      go_wp2_with fail
      go_region_with (first | (go_at_call 60; refine (IH.out _ (by first | exact HX.out | exact HX.out.alloc hB _) (by first | exact hB | (simp; omega))).mono ?_; rintro e w1 ⟨rfl, hb1⟩; have hc1 := (bcell hb1).1))
      all_goals go_wp2
      all_goals go_ret
      all_goals rw [hst.out]
      all_goals refine ⟨rfl, ?_⟩
      all_goals first
        | exact ((Below.refl w.heap.size w).drew.trans hb1).alloc hb1.size _
        | exact ((Below.refl w.heap.size w).alloc (Nat.le_refl _) _).drew.trans (hb1.mono (by simp))
    · have ha : ∀ w, (Op.stringOp .add (⟨#[62]⟩ : ByteArray) (Ba (Pl.brk (t.two (-1)) t.txt))).run Tryz.prog w = .ok (.string (Ba (62 :: Pl.brk (t.two (-1)) t.txt))) w := fun w => add_Ba (P := Tryz.prog) [62] (Pl.brk (t.two (-1)) t.txt) (by simp only [List.length_cons, List.length_nil]; omega) w
      go_enter Tryz.func60, Tryz.ntmps60
      go_wp2_with fail
      go_region_with (first | (go_at_call 60; refine (IH.out _ (by first | exact HX.out | exact HX.out.alloc hB _) (by first | exact hB | (simp; omega))).mono ?_; rintro e w1 ⟨rfl, hb1⟩; have hc1 := (bcell hb1).1))
      all_goals go_wp2
      all_goals go_ret
      all_goals rw [hst.out]
      all_goals refine ⟨rfl, ?_⟩
      all_goals first
        | exact ((Below.refl w.heap.size w).drew.trans hb1).alloc hb1.size _
        | exact ((Below.refl w.heap.size w).alloc (Nat.le_refl _) _).drew.trans (hb1.mono (by simp))
  | .bin s l r, ok, hlen, b, off, n, c, B, small, w, hx, hnc, hB => by
    obtain ⟨rfl, H⟩ := binW hx hnc hB ok.2.2 hlen
    obtain ⟨⟨s0, s1⟩, ok1, ok2⟩ := ok
    have hl := H.hlen
    have ihl : ∀ (w : World), Rd w B (some ⟨b, off, none⟩) l.post.length (I64 l.post) → B ≤ w.heap.size → Calls Tryz.prog 60 #[.slice (some ⟨b, off, none⟩) l.post.length c, .bool false] w (OutB l.txt w) :=
      fun w h h2 => spec_l9Text l ok1 (by omega) b off _ c B false w h (by omega) h2
    have ihr : ∀ (w : World), Rd w B (some ⟨b, off + l.post.length, none⟩) r.post.length (I64 r.post) → B ≤ w.heap.size → Calls Tryz.prog 60 #[.slice (some ⟨b, off + l.post.length, none⟩) r.post.length (c - l.post.length), .bool true] w (OutB (Pl.brk (r.two (-1)) r.txt) w) :=
      fun w h h2 => spec_l9Text r ok2 (by omega) b (off + l.post.length) _ (c - l.post.length) B true w h (by omega) h2
    have b0 := tree_le l false (by omega)
    have b1 := tree_le l (l.two s) (by omega)
    have b2 := tree_le r (r.two (-1)) (by omega)
    have h2 := two_takes l ok1 s
    by_cases ht : Pl.takes l.top = 2
    · by_cases hne : l.top = s
      · exact text_binB s l r b off c B _ _ small w s0 s1 H b0 b1 b2 ihl ihr ht hne (by cases hq : l.two s with | false => rfl | true => exact absurd hne (h2.1 hq).2)
      · exact text_binA s l r b off c B _ _ small w s0 s1 H b0 b1 b2 ihl ihr ht hne (h2.2 ⟨ht, hne⟩)
    · exact text_binC s l r b off c B _ _ small w s0 s1 H b0 b1 b2 ihl ihr ht (by cases hq : l.two s with | false => rfl | true => exact absurd (h2.1 hq).1 ht)
theorem own_cap {w : World} {base n c : Nat} {e : TypeId} {A : Option Addr} {xs : List Value} (h : w.ownsRow base e 1 (.slice A n c) n xs) : n ≤ c := by
  obtain ⟨A', c', e0, h1, _, _⟩ := Rd.of_own h
  injection e0 with _ _ e3
  omega
theorem exprText_f {e : List Int} (h : Pl.exprValid e = false) : Pl.exprText e = [] := by unfold Pl.exprText; rw [h]; rfl
set_option maxHeartbeats 1000000 in
theorem spec_ExprText (A : Option Addr) (n c B : Nat) (xs : List Int) (w : World) (hx : Rd w B A n (I64 xs)) (hB : B ≤ w.heap.size) (hn : n ≤ 1000000000000) (hnc : n ≤ c) :
    Calls Tryz.prog 41 #[.slice A n c] w (OutB (Pl.exprText xs) w) := by
  have lx : xs.length = n := by have := hx.len; rwa [I64_len] at this
  have cv := fun w' => spec_ExprValid A n c B xs w'
  cases he : Pl.exprValid xs
  · have hr := Lib.hid (exprText_f he)
    rw [he] at cv
    go_enter Tryz.func41, Tryz.ntmps41
    go_wp2_with fail
    refine (cv _ hx hn).mono ?_
    rintro e w' ⟨rfl, rfl⟩
    go_wp2_with fail
    go_ret
    rw [hr.out]
    exact ⟨rfl, Below.refl _ _⟩
  · have hr := Lib.hid (Pl.text_valid he)
    rw [he] at cv
    obtain ⟨h1, h2, h3⟩ := Pl.run_valid he
    have hv := Pl.valid_t he
    obtain ⟨b, off, rfl, hbl, hc⟩ := hx.pos (by omega)
    have hx' : Rd w B (some ⟨b, off, none⟩) n (I64 (Pl.tree xs).post) := by rw [h3]; exact hx
    have hT : Calls Tryz.prog 60 #[.slice (some ⟨b, off, none⟩) n c, .bool false] w (OutB (Pl.tree xs).txt w) :=
      spec_l9Text (Pl.tree xs) h2 (by rw [h3]; omega) b off n c B false w hx' hnc hB
    have HT := Lib.hid hT
    have HX := Lib.hid hx
    clear hT hx' hc h1 h2 h3 he lx hx
    go_enter Tryz.func41, Tryz.ntmps41
    go_wp2_with fail
    refine (cv _ HX.out hn).mono ?_
    rintro e w' ⟨rfl, rfl⟩
    go_wp2_with fail
    refine (HT.out).mono ?_
    rintro e w' ⟨rfl, hb⟩
    go_wp2_with fail
    go_ret
    rw [hr.out]
    exact ⟨rfl, hb⟩
set_option maxHeartbeats 1000000 in
theorem impl_ExprText (A : Option Addr) (n c B : Nat) (xs : List Int) (w : World) (hx : Rd w B A n (I64 xs)) (hB : B ≤ w.heap.size) (hn : n ≤ 1000000000000) :
    Calls Tryz.prog 69 #[.slice A n c] w (OutB (Pl.exprText xs) w) := by
  have lx : xs.length = n := by have := hx.len; rwa [I64_len] at this
  have cv := fun w' => impl_ExprValid A n c B xs w'
  cases he : Pl.exprValid xs
  · have hr := Lib.hid (exprText_f he)
    rw [he] at cv
    go_enter Tryz.func69, Tryz.ntmps69
    go_wp2_with fail
    refine (cv _ hx hn).mono ?_
    rintro e w' ⟨rfl, rfl⟩
    go_wp2_with fail
    go_ret
    rw [hr.out]
    exact ⟨rfl, Below.refl _ _⟩
  · have hr := Lib.hid (Pl.text_valid he)
    rw [he] at cv
    obtain ⟨h1, h2, h3⟩ := Pl.run_valid he
    have hv := Pl.valid_t he
    have hl := Pl.text_len he
    rw [Pl.text_valid he] at hl
    have HL := Lib.hid (show (Pl.tree xs).txt.length ≤ 1000000 by omega)
    have HBld := Lib.hid (impl_build A n c B xs w hx hB he)
    have HX := Lib.hid hx
    have OK := Lib.hid h2
    clear h1 h2 h3 he lx hx hl hv
    go_enter Tryz.func69, Tryz.ntmps69
    go_wp2_with fail
    refine (cv _ HX.out hn).mono ?_
    rintro e w' ⟨rfl, rfl⟩
    go_wp2_with fail
    refine (HBld.out).mono ?_
    rintro e w' ⟨g, rfl, hnode, hb⟩
    go_wp2_with fail
    refine (impl_text _ (Pl.tree xs) OK.out HL.out g _ hnode).mono ?_
    rintro e w' ⟨rfl, q, rfl⟩
    go_wp2_with fail
    go_ret
    rw [hr.out]
    exact ⟨rfl, below_drewN hb q⟩
end Go.Proofs.YtamhpgledbmnoaaGreatDoor
namespace Go.Proofs.YtamhpgledbmnoaaGreatDoor
set_option linter.unusedVariables false
set_option linter.unusedSimpArgs false
open Go.RowKit
set_option maxHeartbeats 1000000 in
set_option maxRecDepth 100000 in
theorem lite_IndexByte (s : ByteArray) (c : Int) (w : World) :
    Calls Tryz.prog 98 #[.string s, .int .u8 c] w fun e w' => e = .returned (.int .i64 (Lib.indexByte s.data.toList c.toNat.toUInt8)) ∧ w = w' := by
  go_enter Tryz.func98, Tryz.ntmps98
  go_wp2
  rw [run_callFunc_extern Tryz.func117 (by kernel_rfl) (by kernel_rfl) (by kernel_rfl) (e := Extern.BytealgIndexByte.indexByte) (by kernel_rfl), Lib.run_indexByteString]
  simp only [Result.andThen]
  rw [Oper.upon_value]
  go_wp2
  go_ret
  exact ⟨rfl, rfl⟩
set_option maxHeartbeats 1000000 in
theorem strings_IndexByte (s : ByteArray) (c : Int) (w : World) :
    Calls Tryz.prog 92 #[.string s, .int .u8 c] w fun e w' => e = .returned (.int .i64 (Lib.indexByte s.data.toList c.toNat.toUInt8)) ∧ w = w' := by
  go_enter Tryz.func92, Tryz.ntmps92
  go_wp2_with (go_at_call 98; refine (lite_IndexByte _ _ _).mono ?_; rintro e w' ⟨rfl, rfl⟩)
  go_ret
  exact ⟨rfl, rfl⟩
def digAll : Bool := (List.range 256).all fun n => Lib.indexByte [48, 49, 50, 51, 52, 53, 54, 55, 56, 57, 120, 121] (UInt8.ofNat n) == (Pl.dig (UInt8.ofNat n)).getD (-1)
def unAll : Bool := (List.range 256).all fun n => Lib.indexByte [126, 60, 62] (UInt8.ofNat n) == (Pl.unI (UInt8.ofNat n)).getD (-1)
def sgnAll : Bool := (List.range 256).all fun n => Lib.indexByte [43, 45, 38, 124, 94] (UInt8.ofNat n) == (Pl.sgn (UInt8.ofNat n)).getD (-1)
theorem digAll_t : digAll = true := by kernel_rfl
theorem unAll_t : unAll = true := by kernel_rfl
theorem sgnAll_t : sgnAll = true := by kernel_rfl
theorem dig_idx (c : UInt8) : Lib.indexByte [48, 49, 50, 51, 52, 53, 54, 55, 56, 57, 120, 121] c = (Pl.dig c).getD (-1) := by
  have := List.all_eq_true.1 digAll_t c.toNat (List.mem_range.2 c.toNat_lt)
  simpa using this
theorem un_idx (c : UInt8) : Lib.indexByte [126, 60, 62] c = (Pl.unI c).getD (-1) := by
  have := List.all_eq_true.1 unAll_t c.toNat (List.mem_range.2 c.toNat_lt)
  simpa using this
theorem sgn_idx (c : UInt8) : Lib.indexByte [43, 45, 38, 124, 94] c = (Pl.sgn c).getD (-1) := by
  have := List.all_eq_true.1 sgnAll_t c.toNat (List.mem_range.2 c.toNat_lt)
  simpa using this
theorem toNat_toUInt8 (c : UInt8) : ((c.toNat : Int)).toNat.toUInt8 = c := by
  rw [Int.toNat_natCast]
  exact UInt8.ofNat_toNat
theorem idx_dig (c : UInt8) (w : World) : Calls Tryz.prog 92 #[.string ⟨#[48, 49, 50, 51, 52, 53, 54, 55, 56, 57, 120, 121]⟩, .int .u8 (c.toNat : Int)] w fun e w' => e = .returned (.int .i64 ((Pl.dig c).getD (-1))) ∧ w = w' :=
  (strings_IndexByte _ _ w).mono fun e w' h => by rw [toNat_toUInt8] at h; rw [← dig_idx]; exact h
theorem idx_un (c : UInt8) (w : World) : Calls Tryz.prog 92 #[.string ⟨#[126, 60, 62]⟩, .int .u8 (c.toNat : Int)] w fun e w' => e = .returned (.int .i64 ((Pl.unI c).getD (-1))) ∧ w = w' :=
  (strings_IndexByte _ _ w).mono fun e w' h => by rw [toNat_toUInt8] at h; rw [← un_idx]; exact h
theorem idx_sgn (c : UInt8) (w : World) : Calls Tryz.prog 92 #[.string ⟨#[43, 45, 38, 124, 94]⟩, .int .u8 (c.toNat : Int)] w fun e w' => e = .returned (.int .i64 ((Pl.sgn c).getD (-1))) ∧ w = w' :=
  (strings_IndexByte _ _ w).mono fun e w' h => by rw [toNat_toUInt8] at h; rw [← sgn_idx]; exact h
theorem dig_bd {c : UInt8} {n : Int} (h : Pl.dig c = some n) : 0 ≤ n ∧ n ≤ 11 := by
  unfold Pl.dig at h
  repeat' split at h
  all_goals (first | (injection h with h; omega) | cases h)
theorem un_bd {c : UInt8} {n : Int} (h : Pl.unI c = some n) : 0 ≤ n ∧ n ≤ 2 := by
  unfold Pl.unI at h
  repeat' split at h
  all_goals (first | (injection h with h; omega) | cases h)
theorem sgn_bd {c : UInt8} {n : Int} (h : Pl.sgn c = some n) : 0 ≤ n ∧ n ≤ 4 := by
  unfold Pl.sgn at h
  repeat' split at h
  all_goals (first | (injection h with h; omega) | cases h)
theorem grown_drewN (w : World) (q : Nat) (row : Option Nat) : w.grownBy (w.drewN q) row := ⟨rfl, rfl, rfl, Nat.le_refl _, fun _ _ _ => rfl⟩
theorem grown_set (w : World) (g i : Nat) (u : Value) : w.grownBy (w.setCell ⟨g, i, none⟩ u) (some g) :=
  ⟨rfl, rfl, rfl, by simp, fun k _ hne => Below.heap_setCell w ⟨g, i, none⟩ u k (fun e => hne (by rw [e]))⟩
theorem below_grown {w w' : World} {row : Option Nat} (h : Below w.heap.size w w') : w.grownBy w' row := ⟨h.os, h.tape, h.output, h.size, fun k hk _ => h.block k hk⟩
/-- What a method of the reader leaves: what was read and where it stands, or that nothing was read. -/
def OutO (s : List UInt8) (g at_ : Nat) (R : Pl.Rs) (w : World) (e : Ending) (w' : World) : Prop :=
  ∃ (ys : List Int) (A : Option Addr) (c p : Nat), e = .returned (.tuple #[.slice A ys.length c, .bool R.isSome]) ∧ w'.ownsRow w.heap.size 3 1 (.slice A ys.length c) ys.length (I64 ys) ∧
    Blk w' g 102 #[.string (Ba s), .int .i64 (p : Int)] ∧ w.grownBy w' (some g) ∧ at_ ≤ p ∧ p ≤ s.length ∧ ys.length + at_ ≤ p ∧ (∀ st, R = some st → st = (ys, p))
/-- The reader has gone one letter on. -/
theorem reader_step {s : List UInt8} {at_ g : Nat} {w : World} {q : Nat} (h : Blk w g 102 #[.string (Ba s), .int .i64 (at_ : Int)]) :
    Blk ((w.drewN q).setCell ⟨g, 1, none⟩ (.int .i64 ((at_ : Int) + 1))) g 102 #[.string (Ba s), .int .i64 ((at_ + 1 : Nat) : Int)] ∧ w.grownBy ((w.drewN q).setCell ⟨g, 1, none⟩ (.int .i64 ((at_ : Int) + 1))) (some g) ∧
    ((w.drewN q).setCell ⟨g, 1, none⟩ (.int .i64 ((at_ : Int) + 1))).heap.size = w.heap.size :=
  ⟨(h.drewN q).set_ 1 _, (grown_drewN w q _).trans (grown_set _ g 1 _), by simp⟩
theorem own_lit1 (w : World) (n : Int) {B b0 : Nat} (hB : B ≤ w.heap.size) (hb0 : w.heap.size = b0) : (w.alloc (.cells #[.int .i64 n] 3)).ownsRow B 3 1 (.slice (some ⟨b0, 0, none⟩) 1 1) 1 (I64 [n]) := by
  subst hb0
  exact World.ownsRow_lit (base := B) (e := 3) (size := 1) w (I64 [n]).toArray 1 hB (by simp [maxLen]) (by simp [I64_len])
section
variable {s : List UInt8} {at_ g q : Nat} {w : World}
theorem out_lit {n : Int} (h : Blk w g 102 #[.string (Ba s), .int .i64 (at_ : Int)]) (hat : at_ < s.length) :
    OutO s g at_ (some ([n], at_ + 1)) w (.returned (.tuple #[.slice (some ⟨w.heap.size, 0, none⟩) 1 1, .bool true])) (((w.drewN q).setCell ⟨g, 1, none⟩ (.int .i64 ((at_ : Int) + 1))).alloc (.cells #[.int .i64 n] 3)) := by
  obtain ⟨b2, g2, z2⟩ := reader_step (q := q) h
  exact ⟨[n], _, 1, at_ + 1, rfl, own_lit1 _ n (by rw [z2]; exact Nat.le_refl _) z2, b2.alloc _, g2.trans (World.grownBy_alloc _ _ _), by omega, by omega, by simp; omega, fun st h => by injection h with h; exact h.symm⟩
theorem out_none (h : Blk w g 102 #[.string (Ba s), .int .i64 (at_ : Int)]) (hat : at_ < s.length) :
    OutO s g at_ none w (.returned (.tuple #[.slice none 0 0, .bool false])) ((w.drewN q).setCell ⟨g, 1, none⟩ (.int .i64 ((at_ : Int) + 1))) := by
  obtain ⟨b2, g2, z2⟩ := reader_step (q := q) h
  exact ⟨[], none, 0, at_ + 1, rfl, World.ownsRow_nil _ _ _ _, b2, g2, by omega, by omega, by simp, fun st h => by cases h⟩
/-- A number behind what was read. -/
theorem out_un {w3 w4 : World} {ys : List Int} {A : Option Addr} {c p : Nat} {v : Value} {n : Int} {R : Pl.Rs} (hG : w.grownBy w3 (some g)) (hbl : Blk w3 g 102 #[.string (Ba s), .int .i64 (p : Int)]) (hgl : g < w.heap.size)
    (own3 : w3.ownsRow w.heap.size 3 1 (.slice A ys.length c) ys.length (I64 ys)) (p1 : at_ + 1 ≤ p) (p2 : p ≤ s.length) (p3 : ys.length + (at_ + 1) ≤ p) (hst : ∀ st, R = some st → st = (ys, p))
    (own4 : w4.ownsRow w.heap.size 3 1 v (ys.length + 1) (I64 (ys ++ [n]))) (hg4 : (w3.alloc (.cells #[.int .i64 n] 3)).grownBy w4 (Value.slice A ys.length c).ownBlock) :
    OutO s g at_ (R.map fun st => (st.1 ++ [n], st.2)) w (.returned (.tuple #[v, .bool R.isSome])) w4 := by
  obtain ⟨A4, c4, rfl, _⟩ := Rd.of_own own4
  have hne : some g ≠ (Value.slice A ys.length c).ownBlock := fun e => by have := (own3.lt g e.symm).1; omega
  refine ⟨ys ++ [n], A4, c4, p, ?_, ?_, (hbl.alloc _).grown hg4 hne, ?_, by omega, p2, by simp; omega, ?_⟩
  · cases R <;> simp
  · simpa using own4
  · refine ⟨hg4.os.trans hG.os, hg4.tape.trans hG.tape, hg4.output.trans hG.output, ?_, fun k hk hk2 => ?_⟩
    · have h1 := hG.size
      have h2 := hg4.size
      simp at h2
      omega
    · have h1 := hG.size
      refine (hg4.block k (by simp; omega) (fun e => ?_)).trans ((Below.heap_alloc w3 _ k (by omega)).trans (hG.block k hk hk2))
      have := (own3.lt k e.symm).1
      omega
  · intro st h
    cases R with
    | none => cases h
    | some st' =>
      have := hst st' rfl
      subst this
      simpa using h.symm
theorem out_lost {w3 : World} {p : Nat} (hG : w.grownBy w3 (some g)) (hbl : Blk w3 g 102 #[.string (Ba s), .int .i64 (p : Int)]) (p1 : at_ + 1 ≤ p) (p2 : p ≤ s.length) :
    OutO s g at_ none w (.returned (.tuple #[.slice none 0 0, .bool false])) (w3.drewN q) :=
  ⟨[], none, 0, p, rfl, World.ownsRow_nil _ _ _ _, hbl.drewN _, hG.trans (grown_drewN _ _ _), by omega, p2, by simp; omega, fun st h => by cases h⟩
/-- A bracket was closed. -/
theorem out_close {w3 : World} {ys : List Int} {A : Option Addr} {c p : Nat} (hG : w.grownBy w3 (some g)) (hbl : Blk w3 g 102 #[.string (Ba s), .int .i64 (p : Int)]) (hgl : g < w.heap.size)
    (own3 : w3.ownsRow w.heap.size 3 1 (.slice A ys.length c) ys.length (I64 ys)) (p1 : at_ + 1 ≤ p) (p2 : p < s.length) (p3 : ys.length + (at_ + 1) ≤ p) :
    OutO s g at_ (some (ys, p + 1)) w (.returned (.tuple #[.slice A ys.length c, .bool true])) ((w3.drewN q).setCell ⟨g, 1, none⟩ (.int .i64 ((p : Int) + 1))) := by
  obtain ⟨b2, g2, z2⟩ := reader_step (q := q) hbl
  refine ⟨ys, A, c, p + 1, rfl, own3.kept g2 ?_, b2, hG.trans g2, by omega, by omega, by omega, fun st h => by injection h with h; exact h.symm⟩
  cases hv : (Value.slice A ys.length c).ownBlock with
  | none => exact .inl rfl
  | some k => exact .inr (fun e => by injection e with e; have := (own3.lt k hv).1; omega)
end
theorem op_bad {chk : Bool} {s : List UInt8} {f a : Nat} {c : UInt8} (h : s[a]? = some c) (hd : Pl.dig c = none) (hu : Pl.unI c = none) (hc : c ≠ 40) : Pl.opP chk s (f + 1) a = none := by
  rw [Pl.opP, h]
  simp only [hd, hu]
  rw [if_neg hc]
def POp (s : List UInt8) (f : Nat) : Prop := ∀ (at_ g : Nat) (w : World), at_ ≤ s.length → s.length < at_ + f → Blk w g 102 #[.string (Ba s), .int .i64 (at_ : Int)] →
  Calls Tryz.prog 91 #[.pointer (some ⟨g, 0, none⟩)] w (OutO s g at_ (Pl.opP false s f at_) w)
def PRow (s : List UInt8) (f : Nat) : Prop := ∀ (at_ g : Nat) (w : World), at_ ≤ s.length → s.length < at_ + f → Blk w g 102 #[.string (Ba s), .int .i64 (at_ : Int)] →
  Calls Tryz.prog 68 #[.pointer (some ⟨g, 0, none⟩)] w (OutO s g at_ (Pl.rowP false (Pl.opP false s f) s at_) w)
theorem ba_at {s : List UInt8} {a : Nat} {c : UInt8} (h : s[a]? = some c) (hh : a < (Ba s).size) : (Ba s)[a]'hh = c := by
  obtain ⟨h1, h2⟩ := List.getElem?_eq_some_iff.1 h
  rw [← h2]
  rfl
set_option maxRecDepth 100000 in
set_option maxHeartbeats 4000000 in
theorem impl_operand (s : List UInt8) (hs : s.length ≤ 1000) (f : Nat) (ihO : POp s f) (ihR : PRow s f) : POp s (f + 1) := by
  intro at_ g w hat hf hblk
  have c0 : w.cell? ⟨g, 0, none⟩ = some (.string (Ba s)) := (hblk.cell 0).trans rfl
  have c1 : w.cell? ⟨g, 1, none⟩ = some (.int .i64 (at_ : Int)) := (hblk.cell 1).trans rfl
  have f1 : w.frozen? ⟨g, 1, none⟩ = false := hblk.frozen 1
  have hsz := Ba_size s
  have hgl := hblk.lt
  have IHO := Lib.hid ihO
  have IHR := Lib.hid ihR
  have HB := Lib.hid hblk
  clear ihO ihR hblk
  by_cases hend : at_ = s.length
  · have hR : Pl.opP false s (f + 1) at_ = none := by rw [Pl.opP, List.getElem?_eq_none (by omega)]
    rw [hR]
    clear hR
    have k1 : ((s.length : Nat) : Int) ≤ (at_ : Int) := by omega
    have k2 : ¬ (at_ : Int) < ((s.length : Nat) : Int) := by omega
    go_enter Tryz.func91, Tryz.ntmps91
    go_wp2_with fail
    go_quiet (fail)
    go_wp2_with fail
    go_ret2
    exact ⟨[], none, 0, at_, rfl, World.ownsRow_nil _ _ _ _, HB.out.drewN _, grown_drewN _ _ _, by omega, by omega, by simp, fun st h => by cases h⟩
  · obtain ⟨c, hc⟩ : ∃ c, s[at_]? = some c := ⟨_, List.getElem?_eq_getElem (by omega)⟩
    have hch := fun h => ba_at hc h
    have k1 : (at_ : Int) < ((s.length : Nat) : Int) := by omega
    have k2 : ¬ ((s.length : Nat) : Int) ≤ (at_ : Int) := by omega
    have k3 : (0 : Int) ≤ (at_ : Int) := by omega
    have k4 : (at_ : Int) < 1000 := by omega
    go_enter Tryz.func91, Tryz.ntmps91
    go_wp2_with fail
    go_quiet (fail)
    go_wp2_with fail
    go_quiet (fail)
    go_wp2_with fail
    have HF := Lib.hid (fun q => reader_step (w := w) (q := q) HB.out)
    have hlt : at_ < s.length := by omega
    cases hd : Pl.dig c with
    | some n =>
      have hR : Pl.opP false s (f + 1) at_ = some ([n], at_ + 1) := Pl.op_leaf hc hd
      have HR := Lib.hid hR
      have hn := dig_bd hd
      have n0 : 0 ≤ n := hn.1
      clear hR
      refine (idx_dig c _).mono ?_
      rw [hd]
      rintro e w' ⟨rfl, rfl⟩
      go_wp2_with fail
      go_ret2
      rw [HR.out]
      exact out_lit HB.out hlt
    | none =>
      refine (idx_dig c _).mono ?_
      rw [hd]
      rintro e w' ⟨rfl, rfl⟩
      go_wp2_with fail
      refine (idx_un c _).mono ?_
      cases hu : Pl.unI c with
      | some n =>
        have hn := un_bd hu
        have n0 : 0 ≤ n := hn.1
        have n1 : n ≤ 2 := hn.2
        have hR : Pl.opP false s (f + 1) at_ = _ := Pl.op_un hc hd hu
        have HR := Lib.hid hR
        clear hR
        rintro e w' ⟨rfl, rfl⟩
        go_wp2_with fail
        refine (IHO.out (at_ + 1) g _ (by omega) (by omega) (HF.out _).1).mono ?_
        generalize Pl.opP false s f (at_ + 1) = R at HR
        rintro e w3 ⟨ys, A, cc, p, rfl, own3, blk3, g3, p1, p2, p3, hst⟩
        have z3 := g3.size
        have hz3 : w.heap.size ≤ w3.heap.size := by simpa using z3
        have own3' := own3.mono (base' := w.heap.size) (by simp)
        have G3 := Lib.hid (((HF.out _).2.1).trans g3)
        have BL3 := Lib.hid blk3
        have HST := Lib.hid hst
        clear g3 blk3 hst own3
        go_wp2_with (at_builtin; refine app_int_far rfl (.tmp 53) (.tmp 56) rfl w.heap.size (.slice A ys.length cc) ys.length ys (12 + n) rfl own3' rfl (by omega) (by omega) ?_; intro v' w4 own4 hb4 hg4)
        go_ret2
        rw [HR.out]
        exact out_un G3.out BL3.out hgl own3' p1 p2 p3 HST.out own4 hg4
      | none =>
        rintro e w' ⟨rfl, rfl⟩
        by_cases h40 : c = 40
        · have hR : Pl.opP false s (f + 1) at_ = _ := Pl.op_open (by rw [hc, h40])
          have HR := Lib.hid hR
          have hne : ((c.toNat : Int) != 40) = false := by rw [h40]; decide
          clear hR h40 hd hu
          go_wp2_with fail
          refine (IHR.out (at_ + 1) g _ (by omega) (by omega) (HF.out _).1).mono ?_
          generalize Pl.rowP false (Pl.opP false s f) s (at_ + 1) = R at HR
          rintro e w3 ⟨ys, A, cc, p, rfl, own3, blk3, g3, p1, p2, p3, hst⟩
          have z3 := g3.size
          have hz3 : w.heap.size ≤ w3.heap.size := by simpa using z3
          have own3' := own3.mono (base' := w.heap.size) (by simp)
          have G3 := Lib.hid (((HF.out _).2.1).trans g3)
          have BL3 := Lib.hid blk3
          have d0 : w3.cell? ⟨g, 0, none⟩ = some (.string (Ba s)) := (blk3.cell 0).trans rfl
          have d1 : w3.cell? ⟨g, 1, none⟩ = some (.int .i64 (p : Int)) := (blk3.cell 1).trans rfl
          have d2 : w3.frozen? ⟨g, 1, none⟩ = false := blk3.frozen 1
          clear g3 blk3 own3 c0 c1 f1 hch
          cases R with
          | none =>
            clear hst
            go_wp2_with fail
            go_quiet (fail)
            go_wp2_with fail
            go_ret2
            rw [HR.out]
            exact out_lost G3.out BL3.out p1 p2
          | some st =>
            obtain rfl := hst st rfl
            clear hst
            by_cases hpe : p = s.length
            · have hcl : (Option.some (ys, p) : Pl.Rs).bind (Pl.closeP s) = none := by
                show Pl.closeP s (ys, p) = none
                unfold Pl.closeP
                rw [if_neg (by rw [List.getElem?_eq_none (by simp only []; omega)]; simp)]
              rw [hcl] at HR
              have k5 : ((s.length : Nat) : Int) ≤ (p : Int) := by omega
              have k6 : decide (((s.length : Nat) : Int) ≤ (p : Int)) = true := by simpa using k5
              have k7 : decide (s.length ≤ p) = true := by simp; omega
              clear hcl
              go_wp2_with fail
              go_quiet (fail)
              go_wp2_with fail
              go_ret2
              rw [HR.out]
              exact out_lost G3.out BL3.out p1 p2
            · obtain ⟨c2, hc2⟩ : ∃ c, s[p]? = some c := ⟨_, List.getElem?_eq_getElem (by omega)⟩
              have hch2 := fun h => ba_at hc2 h
              have k5 : (p : Int) < ((s.length : Nat) : Int) := by omega
              have k6 : (0 : Int) ≤ (p : Int) := by omega
              have k7 : decide (s.length ≤ p) = false := by simp; omega
              have k8 : (p : Int) < 1000 := by omega
              have hpl : p < s.length := by omega
              by_cases h41 : c2 = 41
              · have hcl : (Option.some (ys, p) : Pl.Rs).bind (Pl.closeP s) = some (ys, p + 1) := by
                  show Pl.closeP s (ys, p) = _
                  unfold Pl.closeP
                  rw [if_pos (by simp only []; rw [hc2, h41])]
                rw [hcl] at HR
                have hne2 : ((c2.toNat : Int) != 41) = false := by rw [h41]; decide
                clear hcl h41
                go_wp2_with fail
                go_quiet (fail)
                go_wp2_with fail
                go_ret2
                rw [HR.out]
                exact out_close G3.out BL3.out hgl own3' p1 hpl p3
              · have hcl : (Option.some (ys, p) : Pl.Rs).bind (Pl.closeP s) = none := by
                  show Pl.closeP s (ys, p) = none
                  unfold Pl.closeP
                  rw [if_neg (by simp only []; rw [hc2]; intro h; injection h with h; exact h41 h)]
                rw [hcl] at HR
                have hne2 : ((c2.toNat : Int) != 41) = true := by
                  rw [bne_iff_ne]
                  intro h
                  exact h41 (by apply UInt8.toNat_inj.1; show c2.toNat = 41; omega)
                clear hcl h41
                go_wp2_with fail
                go_quiet (fail)
                go_wp2_with fail
                go_ret2
                rw [HR.out]
                exact out_lost G3.out BL3.out p1 p2
        · have hR : Pl.opP false s (f + 1) at_ = none := op_bad hc hd hu h40
          have HR := Lib.hid hR
          have hne : ((c.toNat : Int) != 40) = true := by
            rw [bne_iff_ne]
            intro h
            exact h40 (by apply UInt8.toNat_inj.1; show c.toNat = 40; omega)
          clear hR h40 hd hu
          go_wp2_with fail
          go_ret2
          rw [HR.out]
          exact out_none HB.out hlt
end Go.Proofs.YtamhpgledbmnoaaGreatDoor
namespace Go.Proofs.YtamhpgledbmnoaaGreatDoor
set_option linter.unusedVariables false
set_option linter.unusedSimpArgs false
open Go.RowKit
theorem loop_goF {small : Nat → Pl.Rs} {s : List UInt8} {m : Nat} {sg k : Int} {st st' : List Int × Nat} {c : UInt8} (h : s[st.2]? = some c) (hc : Pl.sgn c = some k) (h' : small (st.2 + 1) = some st') :
    Pl.loopP false small s (m + 1) sg st = Pl.loopP false small s m k (st.1 ++ st'.1 ++ [15 + k], st'.2) := by
  rw [Pl.loopP, h]
  simp only [hc]
  rw [if_neg (by simp), h']
theorem loop_failF {small : Nat → Pl.Rs} {s : List UInt8} {m : Nat} {sg k : Int} {st : List Int × Nat} {c : UInt8} (h : s[st.2]? = some c) (hc : Pl.sgn c = some k) (h' : small (st.2 + 1) = none) :
    Pl.loopP false small s (m + 1) sg st = none := by
  rw [Pl.loopP, h]
  simp only [hc]
  rw [if_neg (by simp), h']
/-- What is still to be read of a row. -/
def RowAt (s : List UInt8) (small : Nat → Pl.Rs) (RR : Pl.Rs) (ok : Bool) (ys : List Int) (p : Nat) : Prop :=
  (ok = true → ∃ m sg, RR = Pl.loopP false small s m sg (ys, p) ∧ s.length ≤ m + p) ∧ (ok = false → RR = none)
theorem rowAt_start {s : List UInt8} {small : Nat → Pl.Rs} {a p : Nat} {ys : List Int} (hst : ∀ st, small a = some st → st = (ys, p)) : RowAt s small (Pl.rowP false small s a) (small a).isSome ys p := by
  refine ⟨fun h => ?_, fun h => ?_⟩
  · cases hs : small a with
    | none => rw [hs] at h; cases h
    | some st =>
      have := hst st hs
      subst this
      exact ⟨s.length, -1, Pl.row_start hs, by omega⟩
  · cases hs : small a with
    | none => unfold Pl.rowP; rw [hs]
    | some st => rw [hs] at h; cases h
theorem rowAt_stop {s : List UInt8} {small : Nat → Pl.Rs} {RR : Pl.Rs} {ys : List Int} {p : Nat} (h : RowAt s small RR true ys p) (hs : s[p]? = none ∨ ∃ c, s[p]? = some c ∧ Pl.sgn c = none) : RR = some (ys, p) := by
  obtain ⟨m, sg, e, _⟩ := h.1 rfl
  rw [e]
  exact Pl.loop_stop hs
theorem rowAt_next {s : List UInt8} {small : Nat → Pl.Rs} {RR : Pl.Rs} {ys ys2 : List Int} {p p2 : Nat} {c : UInt8} {k : Int} (h : RowAt s small RR true ys p) (hs : s[p]? = some c) (hc : Pl.sgn c = some k) (hp : p < s.length) (hp2 : p + 1 ≤ p2)
    (hst : ∀ st, small (p + 1) = some st → st = (ys2, p2)) : RowAt s small RR (small (p + 1)).isSome (ys ++ ys2 ++ [15 + k]) p2 := by
  obtain ⟨m, sg, e, hm⟩ := h.1 rfl
  obtain ⟨m, rfl⟩ : ∃ m', m = m' + 1 := ⟨m - 1, by omega⟩
  refine ⟨fun h => ?_, fun h => ?_⟩
  · cases hs2 : small (p + 1) with
    | none => rw [hs2] at h; cases h
    | some st =>
      have := hst st hs2
      subst this
      exact ⟨m, k, by rw [e, loop_goF (st := (ys, p)) hs hc hs2], by omega⟩
  · cases hs2 : small (p + 1) with
    | none => rw [e]; exact loop_failF (st := (ys, p)) hs hc hs2
    | some st => rw [hs2] at h; cases h
theorem grown_then {a b c : World} {R B : Nat} (h : a.grownBy b (some R)) (h' : Below B b c) (hB : a.heap.size ≤ B) : a.grownBy c (some R) :=
  ⟨h'.os.trans h.os, h'.tape.trans h.tape, h'.output.trans h.output, Nat.le_trans h.size h'.size, fun i hi hne => (h'.block i (by omega)).trans (h.block i hi hne)⟩
section
variable {w : World} {ops : Array Oper} {rest : List Oper} {o : Oper} {a : Act} {Q : Exit → Act → World → Prop}
/-- A list behind a list, nil or not. -/
theorem app_more (hgd : o.guard = none) (s x : Operand)
    (ho : o.op = .call { callee := .builtin .append, args := #[s, x], argTypes := #[41, 41] })
    (B : Nat) (v : Value) (n : Nat) (xs : List Int) (hs : a.eval s = v) (hown : w.ownsRow B 3 1 v n (I64 xs))
    (A : Option Addr) (m c : Nat) (ys : List Int) (B2 : Nat) (hx : a.eval x = .slice A m c) (hown2 : w.ownsRow B2 3 1 (.slice A m c) m (I64 ys)) (hn : n ≤ 1000000000000) (hm : m ≤ 1000000000000) (hB : B ≤ w.heap.size)
    (h : ∀ v' w', w'.ownsRow B 3 1 v' (n + m) (I64 (xs ++ ys)) → Below B w w' → wpList Tryz.prog ops Q rest (a.put o.dst v') w') :
    wpList Tryz.prog ops Q (o :: rest) a w := by
  obtain ⟨i0, hi0, hz0, hz1, hz2⟩ := info_parts int_info
  rcases hown2.2 with ⟨hv, h0⟩ | ⟨g, cap, cur, hv, _⟩
  · subst h0
    injection hv with e1 e2 e3
    subst e1
    subst e3
    have hys : ys = [] := List.eq_nil_of_length_eq_zero (by have := hown2.1; rw [I64_len] at this; omega)
    subst hys
    rw [List.append_nil] at h
    exact wpList_append_own_none hgd s x _ ho B 3 i0 1 Tryz.underlying41 hi0 v n (I64 xs) hs hown hx (h v w hown (Below.refl _ _))
  · injection hv with e1 e2 e3
    subst e1
    refine wpList_append_own _ hgd s x _ ho B 3 i0 _ 1 8 Tryz.underlying41 hi0 hz0 hz1 hz2 rfl (by decide) v n (I64 xs) hs hown ⟨g, 0, none⟩ m c (I64 ys) hx hown2.1
      (hown2.cells rfl) (fun u hu => ?_) (by simp only [maxLen]; omega) (by omega) hB
      (fun v' w' h2 h3 _ => h v' w' (by rw [I64_append]; exact h2) ((Below.refl _ _).grown h3 hB (fun k hk => (hown.lt k hk).1)))
    unfold I64 at hu
    obtain ⟨_, _, rfl⟩ := List.mem_map.1 hu
    rfl
end
set_option maxRecDepth 100000 in
set_option maxHeartbeats 4000000 in
theorem impl_row (s : List UInt8) (hs : s.length ≤ 1000) (f : Nat) (ihO : POp s f) : PRow s f := by
  intro at_ g w hat hf hblk
  have hsz := Ba_size s
  have hgl := hblk.lt
  have IHO := Lib.hid ihO
  have hcall := ihO at_ g w hat hf hblk
  have hstart := fun ys p => rowAt_start (s := s) (small := Pl.opP false s f) (a := at_) (ys := ys) (p := p)
  generalize Pl.rowP false (Pl.opP false s f) s at_ = RR at *
  have HC := Lib.hid hcall
  have HST := Lib.hid hstart
  clear ihO hblk hcall hstart
  go_enter Tryz.func68, Tryz.ntmps68
  go_wp2_with fail
  refine HC.out.mono ?_
  rintro e w1 ⟨ys0, A0, cc0, p0, rfl, own0, blk0, g0, p1, p2, p3, hst0⟩
  have hrow0 := Lib.hid (HST.out ys0 p0 hst0)
  generalize (Pl.opP false s f at_).isSome = ok0 at *
  clear hst0 HST HC
  have hz0 := g0.size
  go_wp2_with fail
  go_loopw [4, 5] (fun ve vo wr => ∃ (ys : List Int) (A : Option Addr) (cc p : Nat) (ok : Bool), ve = .slice A ys.length cc ∧ vo = .bool ok ∧ Hid (RowAt s (Pl.opP false s f) RR ok ys p) ∧
    wr.ownsRow w.heap.size 3 1 (.slice A ys.length cc) ys.length (I64 ys) ∧ Blk wr g 102 #[.string (Ba s), .int .i64 (p : Int)] ∧ w.grownBy wr (some g) ∧ at_ ≤ p ∧ p ≤ s.length ∧ ys.length + at_ ≤ p)
    (fun ve _ _ => match ve with | .slice _ n _ => s.length + 1 - n | _ => 0)
  case atStart => exact ⟨ys0, A0, cc0, p0, ok0, rfl, rfl, hrow0, own0, blk0, g0, p1, p2, p3⟩
  case round =>
    obtain ⟨ys, A, cc, p, ok, rfl, rfl, hrow, own, blk, hg, p1, p2, p3⟩ := hrel
    have hz := hg.size
    have c0 : wr.cell? ⟨g, 0, none⟩ = some (.string (Ba s)) := (blk.cell 0).trans rfl
    have c1 : wr.cell? ⟨g, 1, none⟩ = some (.int .i64 (p : Int)) := (blk.cell 1).trans rfl
    have f1 : wr.frozen? ⟨g, 1, none⟩ = false := blk.frozen 1
    have HB := Lib.hid blk
    have HG := Lib.hid hg
    clear blk hg
    cases ok with
    | false =>
      have hR := Lib.hid (hrow.out.2 rfl)
      go_wp2_with fail
      go_quiet (fail)
      go_wp2_with fail
      go_ret2
      rw [hR.out]
      exact ⟨ys, A, cc, p, rfl, own, HB.out.drewN _, HG.out.trans (grown_drewN _ _ _), p1, p2, p3, fun st h => by cases h⟩
    | true =>
      by_cases hend : p = s.length
      · have hR := Lib.hid (rowAt_stop hrow.out (.inl (List.getElem?_eq_none (by omega))))
        have k2 : decide (p < s.length) = false := by simp; omega
        have k3 : ¬ (p : Int) < ((s.length : Nat) : Int) := by omega
        go_wp2_with fail
        go_quiet (fail)
        go_wp2_with fail
        go_ret2
        rw [hR.out]
        exact ⟨ys, A, cc, p, rfl, own, HB.out.drewN _, HG.out.trans (grown_drewN _ _ _), p1, p2, p3, fun st h => by injection h with h; exact h.symm⟩
      · obtain ⟨c, hc⟩ : ∃ c, s[p]? = some c := ⟨_, List.getElem?_eq_getElem (by omega)⟩
        have hch := fun h => ba_at hc h
        have hpl : p < s.length := by omega
        have k1 : decide (p < s.length) = true := by simp; omega
        have k2 : (p : Int) < ((s.length : Nat) : Int) := by omega
        have k3 : (0 : Int) ≤ (p : Int) := by omega
        have k4 : (p : Int) < 1000 := by omega
        have HI := Lib.hid (fun w => idx_sgn c w)
        cases hsg : Pl.sgn c with
        | none =>
          have hR := Lib.hid (rowAt_stop hrow.out (.inr ⟨c, hc, hsg⟩))
          rw [hsg, Option.getD_none] at HI
          clear hsg hc
          go_wp2_with fail
          go_quiet (fail)
          go_wp2_with fail
          go_quiet ((first | (go_at_call 92; first | exact quiet_left (HI.out _) | exact quiet_add_left (HI.out _))))
          go_wp2_with fail
          go_ret2
          rw [hR.out]
          exact ⟨ys, A, cc, p, rfl, own, HB.out.drewN _, HG.out.trans (grown_drewN _ _ _), p1, p2, p3, fun st h => by injection h with h; exact h.symm⟩
        | some k =>
          have hk := sgn_bd hsg
          have k5 : 0 ≤ k := hk.1
          have k6 : k ≤ 4 := hk.2
          rw [hsg, Option.getD_some] at HI
          have hnx := Lib.hid (fun ys2 p2 => rowAt_next (ys2 := ys2) (p2 := p2) hrow.out hc hsg hpl)
          clear hsg hc hk
          go_wp2_with fail
          go_quiet (fail)
          go_wp2_with fail
          go_quiet ((first | (go_at_call 92; first | exact quiet_left (HI.out _) | exact quiet_add_left (HI.out _))))
          go_wp2_with fail
          have HF := Lib.hid (fun q => reader_step (q := q) HB.out)
          refine (IHO.out (p + 1) g _ (by omega) (by omega) (HF.out _).1).mono ?_
          generalize Pl.opP false s f (p + 1) = R2 at hnx
          rintro e w3 ⟨ys2, A2, cc2, p4, rfl, own2, blk2, g2, q1, q2, q3, hst2⟩
          have HN := Lib.hid (hnx.out ys2 p4 q1 hst2)
          have z2 := g2.size
          have hz3 : wr.heap.size ≤ w3.heap.size := by simpa using z2
          have gg := ((HF.out _).2.1).trans g2
          have own3 := own.kept gg (by
            cases hv : (Value.slice A ys.length cc).ownBlock with
            | none => exact .inl rfl
            | some k => exact .inr (fun e => by injection e with e; have := (own.lt k hv).1; omega))
          have own2' := own2.mono (base' := wr.heap.size) (by simp)
          have HG3 := Lib.hid (HG.out.trans gg)
          have HB3 := Lib.hid blk2
          clear hst2 hnx g2 gg own own2 blk2 c0 c1 f1 hch
          go_wp2_with (first
            | (at_builtin; refine app_more rfl (.tmp 51) (.tmp 52) rfl w.heap.size (.slice A ys.length cc) ys.length ys rfl own3 A2 ys2.length cc2 ys2 wr.heap.size rfl own2' (by omega) (by omega) (by omega) ?_; intro v5 w5 own5 hb5)
            | (at_builtin; refine app_int_far rfl (.tmp 53) (.tmp 56) rfl w.heap.size v5 (ys.length + ys2.length) (ys ++ ys2) (15 + k) rfl own5 rfl (by omega) (by have := hb5.size; omega) ?_; intro v6 w6 own6 hb6 hg6))
          obtain ⟨A6, k6, rfl, _⟩ := Rd.of_own own6
          have hl6 : (ys ++ ys2 ++ [15 + k]).length = ys.length + ys2.length + 1 := by simp; omega
          refine ⟨⟨ys ++ ys2 ++ [15 + k], A6, k6, p4, R2.isSome, by rw [hl6], rfl, HN, by rw [hl6]; exact own6, (HB3.out.below hb5 hgl).below hb6 hgl, (grown_then (grown_then HG3.out hb5 (Nat.le_refl _)) hb6 (Nat.le_refl _)), by omega, q2, by rw [hl6]; omega⟩, ?_⟩
          show s.length + 1 - (ys.length + ys2.length + 1) < s.length + 1 - ys.length
          omega
theorem reads_op (s : List UInt8) (hs : s.length ≤ 1000) : ∀ f, POp s f
  | 0 => fun at_ g w h1 h2 _ => absurd h2 (by omega)
  | f + 1 => impl_operand s hs f (reads_op s hs f) (impl_row s hs f (reads_op s hs f))
theorem Ba_inj {a b : List UInt8} (h : Ba a = Ba b) : a = b := by
  have h1 := congrArg (fun x => x.data.toList) h
  simpa [Ba] using h1
theorem Ba_list (a : List UInt8) : (Ba a).toList = a := by rw [ByteArray.toList_eq]; simp [Ba]
theorem Ba_ne {a b : List UInt8} (h : a ≠ b) : ((Ba a).toList == (Ba b).toList) = false := by
  rw [Ba_list, Ba_list]
  simpa using h
/-- What ReadExpr leaves. -/
def OutRd (r : Option (List Int)) (w : World) (e : Ending) (w' : World) : Prop :=
  ∃ (ys : List Int) (A : Option Addr) (c : Nat), ys = r.getD [] ∧ e = .returned (.tuple #[.slice A ys.length c, .bool r.isSome]) ∧ w'.ownsRow w.heap.size 3 1 (.slice A ys.length c) ys.length (I64 ys) ∧ Below w.heap.size w w'
theorem row_empty (chk : Bool) (f : Nat) : Pl.rowP chk (Pl.opP chk [] f) [] 0 = none := by
  unfold Pl.rowP
  cases f <;> rfl
set_option maxRecDepth 100000 in
set_option maxHeartbeats 4000000 in
theorem impl_ReadExpr (s : List UInt8) (w : World) (hs : s.length ≤ 1000000000000) : Calls Tryz.prog 46 #[.string (Ba s)] w (OutRd (Pl.readE s) w) := by
  have hsz := Ba_size s
  by_cases hbig : 96 < s.length
  · have hr := Lib.hid (Pl.readE_long (s := s) (by omega))
    have k1 : (96 : Int) < ((s.length : Nat) : Int) := by omega
    go_enter Tryz.func46, Tryz.ntmps46
    go_wp2_with fail
    go_ret2
    rw [hr.out]
    exact ⟨[], none, 0, rfl, rfl, World.ownsRow_nil _ _ _ _, Below.refl _ _⟩
  · have k1 : ¬ (96 : Int) < ((s.length : Nat) : Int) := by omega
    have hrow := impl_row s (by omega) (s.length + 1) (reads_op s (by omega) _) 0
    have hby := Pl.readE_by (s := s) (R := Pl.rowP false (Pl.opP false s (s.length + 1)) s 0) (fun e h1 h2 => ⟨_, Pl.text_reads h1 h2 (by have := Pl.expr_le h1 h2; omega)⟩)
    have hemp : Pl.rowP false (Pl.opP false s (s.length + 1)) s 0 ≠ none → s ≠ [] := by
      intro h e
      subst e
      exact h (row_empty _ _)
    generalize Pl.rowP false (Pl.opP false s (s.length + 1)) s 0 = R at *
    have HR := Lib.hid hrow
    have HBy := Lib.hid hby
    have HE := Lib.hid hemp
    clear hrow hby hemp
    go_enter Tryz.func46, Tryz.ntmps46
    go_wp2_with fail
    refine (HR.out w.heap.size _ (by omega) (by omega) (Blk.new w 102 #[.string (Ba s), .int .i64 ((0 : Nat) : Int)])).mono ?_
    rintro e w3 ⟨ys, A, cc, p, rfl, own3, blk3, g3, p1, p2, p3, hst⟩
    have z3 := g3.size
    have hz3 : w.heap.size + 1 ≤ w3.heap.size := by simpa using z3
    have HB3 := ((Below.refl w.heap.size w).alloc (Nat.le_refl _) (.cells #[.string (Ba s), .int .i64 ((0 : Nat) : Int)] 102)).grown g3 (by simp) (fun k hk => by injection hk with hk; omega)
    have own3' := own3.mono (base' := w.heap.size) (by simp)
    clear g3 blk3 own3 z3
    cases R with
    | none =>
      have hr := HBy.out
      unfold Pl.checkT at hr
      have hr := Lib.hid hr
      clear HBy hst
      go_wp2_with fail
      go_ret2
      rw [← hr.out]
      exact ⟨[], none, 0, rfl, rfl, World.ownsRow_nil _ _ _ _, HB3⟩
    | some st =>
      obtain rfl := hst st rfl
      have hne : s ≠ [] := HE.out (by simp)
      have hr : (if Pl.exprText ys = s ∧ s ≠ [] then some ys else none) = Pl.readE s := HBy.out
      have rd3 := Lib.hid (rd_own own3')
      clear HBy hst HE
      by_cases hq : Pl.exprText ys = s
      · rw [if_pos ⟨hq, hne⟩] at hr
        have hr := Lib.hid hr
        have HQ := Lib.hid hq
        clear hq
        go_wp2_with fail
        refine (impl_ExprText A ys.length cc _ ys _ rd3.out (Nat.le_refl _) (by omega)).mono ?_
        rw [HQ.out]
        rintro e w4 ⟨rfl, hb4⟩
        go_wp2_with fail
        go_ret2
        rw [← hr.out]
        exact ⟨ys, A, cc, rfl, rfl, own_below own3' hb4, below_step HB3 hb4 (by omega)⟩
      · rw [if_neg (fun h => hq h.1)] at hr
        have hr := Lib.hid hr
        have hn := Ba_ne hq
        clear hq
        go_wp2_with fail
        refine (impl_ExprText A ys.length cc _ ys _ rd3.out (Nat.le_refl _) (by omega)).mono ?_
        rintro e w4 ⟨rfl, hb4⟩
        go_wp2_with fail
        go_ret2
        rw [← hr.out]
        exact ⟨[], none, 0, rfl, rfl, World.ownsRow_nil _ _ _ _, below_step HB3 hb4 (by omega)⟩
end Go.Proofs.YtamhpgledbmnoaaGreatDoor
