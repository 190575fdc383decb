/-
  Expressions as trees, and their texts: plain functions. No program is in sight.
-/
import Derived.Test.YtnjcephddilalabPe
namespace Go.Proofs.Ytnjcephddilalab
set_option linter.unusedVariables false
set_option linter.unusedSimpArgs false
namespace Pl
inductive Tr where
  | leaf (s : Int)
  | un (s : Int) (t : Tr)
  | bin (s : Int) (l r : Tr)
  deriving DecidableEq
def Tr.post : Tr → List Int
  | .leaf s => [s]
  | .un s t => t.post ++ [s]
  | .bin s l r => l.post ++ r.post ++ [s]
def Tr.ok : Tr → Prop
  | .leaf s => 0 ≤ s ∧ s < 12
  | .un s t => (12 ≤ s ∧ s < 15) ∧ t.ok
  | .bin s l r => (15 ≤ s ∧ s ≤ 19) ∧ l.ok ∧ r.ok
def Tr.top : Tr → Int
  | .leaf s => s
  | .un s _ => s
  | .bin s _ _ => s
theorem Tr.post_pos (t : Tr) : 0 < t.post.length := by cases t <;> simp [Tr.post] <;> omega
theorem Tr.post_last (t : Tr) : ∃ p, t.post = p ++ [t.top] := by
  cases t with
  | leaf s => exact ⟨[], rfl⟩
  | un s t => exact ⟨t.post, rfl⟩
  | bin s l r => exact ⟨l.post ++ r.post, rfl⟩
/-- One step on a stack of trees, its top ahead. -/
def stepR (ts : List Tr) (s : Int) : List Tr :=
  if s < 12 then .leaf s :: ts else if s < 15 then (match ts with | a :: r => .un s a :: r | [] => []) else (match ts with | b :: a :: r => .bin s a b :: r | _ => [])
theorem stepR_0 {ts : List Tr} {s : Int} (h : s < 12) : stepR ts s = .leaf s :: ts := by unfold stepR; rw [if_pos h]
theorem stepR_1 {r : List Tr} {a : Tr} {s : Int} (h : 12 ≤ s) (h' : s < 15) : stepR (a :: r) s = .un s a :: r := by unfold stepR; rw [if_neg (by omega), if_pos h']
theorem stepR_2 {r : List Tr} {a b : Tr} {s : Int} (h : 15 ≤ s) : stepR (b :: a :: r) s = .bin s a b :: r := by unfold stepR; rw [if_neg (by omega), if_neg (by omega)]
theorem run_post : ∀ (t : Tr), t.ok → ∀ ts, t.post.foldl stepR ts = t :: ts
  | .leaf s, h, ts => by
    show stepR ts s = _
    exact stepR_0 h.2
  | .un s t, h, ts => by
    show (t.post ++ [s]).foldl stepR ts = _
    rw [List.foldl_append, run_post t h.2 ts]
    exact stepR_1 h.1.1 h.1.2
  | .bin s l r, h, ts => by
    show (l.post ++ r.post ++ [s]).foldl stepR ts = _
    rw [List.foldl_append, List.foldl_append, run_post l h.2.1 ts, run_post r h.2.2]
    exact stepR_2 h.1.1
theorem post_inj {t t' : Tr} (h : t.ok) (h' : t'.ok) (he : t.post = t'.post) : t = t' := by
  have h1 := run_post t h []
  rw [he, run_post t' h' []] at h1
  simpa using h1.symm
/-- The posts of a stack, from its bottom on. -/
def posts (ts : List Tr) : List Int := ts.reverse.flatMap Tr.post
theorem posts_cons (t : Tr) (ts : List Tr) : posts (t :: ts) = posts ts ++ t.post := by simp [posts, List.flatMap_append]
theorem run_scan : ∀ (e : List Int) (d r : Int) (ts : List Tr), scan e d = some r → (ts.length : Int) = d → (∀ t ∈ ts, t.ok) →
    ((e.foldl stepR ts).length : Int) = r ∧ (∀ t ∈ e.foldl stepR ts, t.ok) ∧ posts (e.foldl stepR ts) = posts ts ++ e
  | [], d, r, ts, h, hl, ho => by
    simp [scan] at h
    refine ⟨by rw [← h]; exact hl, ho, by simp⟩
  | s :: e, d, r, ts, h, hl, ho => by
    unfold scan at h
    split at h
    · rename_i hc
      obtain ⟨⟨s0, s1⟩, ht⟩ := hc
      rw [List.foldl_cons]
      by_cases h0 : s < 12
      · rw [takes_0 h0] at h
        obtain ⟨g1, g2, g3⟩ := run_scan e _ r (stepR ts s) h (by rw [stepR_0 h0, List.length_cons]; omega) (by
          rw [stepR_0 h0]; intro t ht'
          rcases List.mem_cons.1 ht' with rfl | ht'
          · exact ⟨s0, h0⟩
          · exact ho t ht')
        refine ⟨g1, g2, ?_⟩
        rw [g3, stepR_0 h0, posts_cons]; simp [Tr.post]
      · by_cases h1 : s < 15
        · rw [takes_1 (by omega) h1] at h ht
          match ts, hl, ho with
          | a :: q, hl, ho =>
            rw [List.length_cons] at hl
            obtain ⟨g1, g2, g3⟩ := run_scan e _ r (stepR (a :: q) s) h (by rw [stepR_1 (by omega) h1, List.length_cons]; omega) (by
              rw [stepR_1 (by omega) h1]; intro t ht'
              rcases List.mem_cons.1 ht' with rfl | ht'
              · exact ⟨⟨by omega, h1⟩, ho a (List.mem_cons_self ..)⟩
              · exact ho t (List.mem_cons_of_mem _ ht'))
            refine ⟨g1, g2, ?_⟩
            rw [g3, stepR_1 (by omega) h1, posts_cons, posts_cons]; simp [Tr.post]
          | [], hl, ho => simp at hl; omega
        · rw [takes_2 (by omega)] at h ht
          match ts, hl, ho with
          | b :: a :: q, hl, ho =>
            rw [List.length_cons, List.length_cons] at hl
            obtain ⟨g1, g2, g3⟩ := run_scan e _ r (stepR (b :: a :: q) s) h (by rw [stepR_2 (by omega), List.length_cons]; omega) (by
              rw [stepR_2 (by omega)]; intro t ht'
              rcases List.mem_cons.1 ht' with rfl | ht'
              · exact ⟨⟨by omega, s1⟩, ho a (List.mem_cons_of_mem _ (List.mem_cons_self ..)), ho b (List.mem_cons_self ..)⟩
              · exact ho t (List.mem_cons_of_mem _ (List.mem_cons_of_mem _ ht')))
            refine ⟨g1, g2, ?_⟩
            rw [g3, stepR_2 (by omega), posts_cons, posts_cons, posts_cons]; simp [Tr.post]
          | [a], hl, ho => simp at hl; omega
          | [], hl, ho => simp at hl; omega
    · cases h
/-- The tree of a valid expression. -/
def tree (e : List Int) : Tr := (e.foldl stepR []).headD (.leaf 0)
theorem run_valid {e : List Int} (h : exprValid e = true) : e.foldl stepR [] = [tree e] ∧ (tree e).ok ∧ (tree e).post = e := by
  obtain ⟨_, _, hs⟩ := valid_t h
  obtain ⟨g1, g2, g3⟩ := run_scan e 0 1 [] hs rfl (by simp)
  unfold tree
  match hq : e.foldl stepR [], g1, g2, g3 with
  | [t], g1, g2, g3 =>
    refine ⟨rfl, g2 t (by simp), ?_⟩
    simpa [posts] using g3
  | [], g1, g2, g3 => simp at g1
  | a :: b :: r, g1, g2, g3 => simp at g1; omega
theorem tree_post {t : Tr} (h : t.ok) : tree t.post = t := by unfold tree; rw [run_post t h]; rfl
theorem scan_post : ∀ (t : Tr), t.ok → ∀ (d : Int), 0 ≤ d → scan t.post d = some (d + 1)
  | .leaf s, h, d, hd => by
    show scan [s] d = _
    unfold scan
    rw [takes_0 h.2, if_pos ⟨⟨h.1, by have := h.2; omega⟩, hd⟩]
    simp [scan]
  | .un s t, h, d, hd => by
    show scan (t.post ++ [s]) d = _
    rw [scan_append, scan_post t h.2 d hd]
    show scan [s] (d + 1) = _
    unfold scan
    rw [takes_1 h.1.1 h.1.2, if_pos ⟨⟨by have := h.1.1; omega, by have := h.1.2; omega⟩, by omega⟩]
    simp [scan]
  | .bin s l r, h, d, hd => by
    show scan (l.post ++ r.post ++ [s]) d = _
    rw [scan_append, scan_append, scan_post l h.2.1 d hd]
    show (scan r.post (d + 1)).bind _ = _
    rw [scan_post r h.2.2 _ (by omega)]
    show scan [s] (d + 1 + 1) = _
    unfold scan
    rw [takes_2 h.1.1, if_pos ⟨⟨by have := h.1.1; omega, h.1.2⟩, by omega⟩]
    simp [scan]; omega
theorem valid_post {t : Tr} (h : t.ok) (hn : t.post.length ≤ 24) : exprValid t.post = true := by
  have h1 := t.post_pos
  exact decide_eq_true ⟨by omega, hn, scan_post t h 0 (by omega)⟩

/-! Texts. -/
def leafCh (s : Int) : UInt8 := if s = 10 then 120 else if s = 11 then 121 else UInt8.ofNat (48 + s.toNat)
def signs : List UInt8 := [126, 60, 62, 43, 45, 38, 124, 94]
def signCh (s : Int) : UInt8 := signs.getD (s - 12).toNat 0
/-- Whether a tree ends with a step that takes two, but one. -/
def Tr.two : Tr → Int → Bool
  | .bin s _ _, but => s != but
  | _, _ => false
def brk (b : Bool) (x : List UInt8) : List UInt8 := if b = true then 40 :: (x ++ [41]) else x
def Tr.txt : Tr → List UInt8
  | .leaf s => [leafCh s]
  | .un s t => signCh s :: brk (t.two (-1)) t.txt
  | .bin s l r => brk (l.two s) l.txt ++ signCh s :: brk (r.two (-1)) r.txt
theorem brk_len (b : Bool) (x : List UInt8) : (brk b x).length ≤ x.length + 2 := by unfold brk; split <;> simp
theorem two_0 (t : Tr) (h : t.post.length = 1) (but : Int) : t.two but = false := by
  cases t with
  | leaf s => rfl
  | un s t => rfl
  | bin s l r =>
    have h1 := l.post_pos
    have h2 := r.post_pos
    simp [Tr.post] at h
    omega
theorem txt_len : ∀ (t : Tr), t.txt.length + 2 ≤ 3 * t.post.length
  | .leaf s => by simp [Tr.txt, Tr.post]
  | .un s t => by
    have := txt_len t
    have h2 := brk_len (t.two (-1)) t.txt
    simp [Tr.txt, Tr.post]; omega
  | .bin s l r => by
    have := txt_len l
    have := txt_len r
    have h2 := brk_len (l.two s) l.txt
    have h3 := brk_len (r.two (-1)) r.txt
    simp [Tr.txt, Tr.post]; omega
def exprText (e : List Int) : List UInt8 := if exprValid e = true then (tree e).txt else []
theorem txt_pos (t : Tr) : 0 < t.txt.length := by cases t <;> simp [Tr.txt] <;> omega
end Pl
/-- A text as the model has it. -/
def Ba (l : List UInt8) : ByteArray := ⟨l.toArray⟩
theorem Ba_size (l : List UInt8) : (Ba l).size = l.length := by simp [Ba, ByteArray.size]
theorem Ba_append (a b : List UInt8) : Ba a ++ Ba b = Ba (a ++ b) := by
  apply ByteArray.ext
  simp [Ba, ByteArray.data_append]
end Go.Proofs.Ytnjcephddilalab
