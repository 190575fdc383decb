/-
  The program's build: the steps become trees of nodes in memory.
  Conditions: as stated at each.
-/
import Derived.Test.YtamhpgledbmnoaaGreatDoorT1
import Derived.Test.YtamhpgledbmnoaaGreatDoorKE
import Derived.Test.YtamhpgledbmnoaaGreatDoorKC
import Derived.Deep.AppendLies
import Derived.Maps.AppendAt
namespace Go.Proofs.YtamhpgledbmnoaaGreatDoor
set_option linter.unusedVariables false
set_option linter.unusedSimpArgs false
open Go.RowKit
theorem node_info : (Tryz.prog.info? 124).map (fun i => (i.zero, i.size, i.bytes)) = some (some (.pointer none), 1, 8) := by kernel_rfl
set_option maxRecDepth 100000 in
set_option maxHeartbeats 1000000 in
theorem clone_nodes_nil (w : World) : Calls Tryz.prog 114 #[.slice none 0 0] w fun e w' => e = .returned (.slice none 0 0) ∧ w = w' := by
  have hq := fun w => Go.Lib.run_eql_slice_nil (P := Tryz.prog) w 140 124 none 0 0 0 0 Tryz.underlying140
  go_enter Tryz.func114, Tryz.ntmps114
  go_wp2
  go_ret
  exact ⟨rfl, rfl⟩
set_option maxRecDepth 100000 in
set_option maxHeartbeats 1000000 in
theorem clone_nodes (b off k c : Nat) (xs : List Value) (w : World) (hl : xs.length = k) (hc : ∀ j u, xs[j]? = some u → w.cell? ⟨b, off + j, none⟩ = some u) (hbw : b < w.heap.size) (h1 : ∀ u ∈ xs, u.oneCell' = true) (hk : k ≤ 1000) :
    Calls Tryz.prog 114 #[.slice (some ⟨b, off, none⟩) k c] w fun e w' => ∃ v, e = .returned v ∧ w'.ownsRow w.heap.size 124 1 v k xs ∧ Below w.heap.size w w' := by
  obtain ⟨i0, hi0, hz0, hz1, hz2⟩ := info_parts node_info
  have hq := fun w => Go.Lib.run_eql_slice_nil (P := Tryz.prog) w 140 124 (some ⟨b, off, none⟩) k c 0 0 Tryz.underlying140
  have hnew : ∀ j u, xs[j]? = some u → (w.alloc (.cells #[] 124)).cell? ((⟨b, off, none⟩ : Addr).add j) = some u := by
    intro j u hu
    have e : (⟨b, off, none⟩ : Addr).add j = ⟨b, off + j, none⟩ := by
      unfold Addr.add
      split
      · rename_i h0; subst h0; rfl
      · rfl
    rw [e, World.cell?_alloc_lt w _ ⟨b, off + j, none⟩ hbw]
    exact hc j u hu
  have HC := Lib.hid hnew
  have H1 := Lib.hid h1
  have HL := Lib.hid hl
  clear hc h1 hl hnew
  go_enter Tryz.func114, Tryz.ntmps114
  go_wp2_with (at_builtin; refine wpList_append_own _ rfl (.tmp 5) (.tmp 6) _ rfl w.heap.size 124 i0 _ 1 8 Tryz.underlying140 hi0 hz0 hz1 hz2 rfl (by decide) (.slice (some ⟨w.heap.size, 0, none⟩) 0 0) 0 [] rfl (World.ownsRow_made w #[] 0 (Nat.le_refl _) (by simp [maxLen]) rfl) ⟨b, off, none⟩ k c xs rfl (by have := HL.out; omega) HC.out H1.out (by simp only [maxLen]; omega) (by omega) (by simp) ?_; intro v' w' own' hg' _)
  go_ret
  refine ⟨v', rfl, ?_, ((Below.refl _ _).alloc (Nat.le_refl _) _).grown hg' (by simp) (fun k hk => by simp [Value.ownBlock] at hk; omega)⟩
  simpa using own'
def Pt (gs : List Nat) : List Value := gs.map fun g => .pointer (some ⟨g, 0, none⟩)
theorem Pt_len (gs : List Nat) : (Pt gs).length = gs.length := by simp [Pt]
theorem Pt_get {gs : List Nat} {i g : Nat} (h : gs[i]? = some g) : (Pt gs)[i]? = some (.pointer (some ⟨g, 0, none⟩)) := by simp [Pt, h]
/-- The trees ts lie at the blocks gs. -/
def Forest (w : World) (S : Nat → Prop) : List Pl.Tr → List Nat → Prop
  | [], [] => True
  | t :: ts, g :: gs => Node w S t g ∧ Forest w S ts gs
  | _, _ => False
theorem Forest.keep {w w' : World} {S S' : Nat → Prop} (hk : ∀ g o v, S g → w.cell? ⟨g, o, none⟩ = some v → w'.cell? ⟨g, o, none⟩ = some v) (hS : ∀ g, S g → S' g) : ∀ {ts : List Pl.Tr} {gs : List Nat}, Forest w S ts gs → Forest w' S' ts gs
  | [], [], h => h
  | t :: ts, g :: gs, h => ⟨Node.keep hk hS h.1, Forest.keep hk hS h.2⟩
  | [], _ :: _, h => h.elim
  | _ :: _, [], h => h.elim
theorem Forest.len {w : World} {S : Nat → Prop} : ∀ {ts : List Pl.Tr} {gs : List Nat}, Forest w S ts gs → ts.length = gs.length
  | [], [], h => rfl
  | t :: ts, g :: gs, h => by simp [Forest.len h.2]
  | [], _ :: _, h => h.elim
  | _ :: _, [], h => h.elim
section
variable {w : World} {ops : Array Oper} {rest : List Oper} {o : Oper} {a : Act} {Q : Exit → Act → World → Prop}
/-- A pointer behind a row, and where the row lies then. -/
theorem app_ptr (hgd : o.guard = none) (s x : Operand)
    (ho : o.op = .call { callee := .builtin .append, args := #[s, x], argTypes := #[140, 140] })
    (base : Nat) (v : Value) (n : Nat) (gs : List Nat) (g : Nat) (hs : a.eval s = v) (hown : w.ownsRow base 124 1 v n (Pt gs))
    (b0 : Nat) (hb0 : w.heap.size = b0) (hx : a.eval x = .slice (some ⟨b0, 0, none⟩) 1 1) (hn : n ≤ 1000000000000) (hbase : base ≤ w.heap.size)
    (h : ∀ v' w', w'.ownsRow base 124 1 v' (n + 1) (Pt (gs ++ [g])) → Below base w w' → (w.alloc (.cells #[.pointer (some ⟨g, 0, none⟩)] 124)).grownBy w' v.ownBlock →
      (v'.ownBlock = v.ownBlock ∨ v'.ownBlock = some (w.heap.size + 1)) → wpList Tryz.prog ops Q rest (a.put o.dst v') w') :
    wpList Tryz.prog ops Q (o :: rest) a (w.alloc (.cells #[.pointer (some ⟨g, 0, none⟩)] 124)) := by
  subst hb0
  obtain ⟨i0, hi0, hz0, hz1, hz2⟩ := info_parts node_info
  exact wpList_append_own_at _ hgd s x _ ho base 124 i0 _ 1 8 Tryz.underlying140 hi0 hz0 hz1 hz2 rfl (by decide) v n (Pt gs) hs (hown.alloc _) ⟨w.heap.size, 0, none⟩ 1 1 [.pointer (some ⟨g, 0, none⟩)] hx rfl
    (cell_one_new _ _ _) (by simp [Value.oneCell']) (by simp only [maxLen]; omega) (by omega) (by simp; omega)
    (fun v' w' h2 h3 _ h4 => h v' w' (by simpa [Pt] using h2) (below_of_grown hown hbase h3) h3 (by simpa using h4))
end
/-- What is known of the stack in a round: its row, and the trees under it. -/
structure Stk (B : Nat) (wr : World) (v : Value) (d : Nat) (ts : List Pl.Tr) (gs : List Nat) : Prop where
  own : wr.ownsRow B 124 1 v d (Pt gs.reverse)
  trees : Forest wr (fun k => B ≤ k ∧ k < wr.heap.size ∧ v.ownBlock ≠ some k) ts gs
theorem Stk.lt {B : Nat} {wr : World} {v : Value} {d : Nat} {ts : List Pl.Tr} {gs : List Nat} (h : Stk B wr v d ts gs) : ∀ k, v.ownBlock = some k → k < wr.heap.size := fun k hk => (h.own.lt k hk).2
/-- One tree behind the stack: its node was the last that was made. -/
theorem stk_push {B : Nat} {wr w2 w3 : World} {v v' vc : Value} {d m : Nat} {ts ts' : List Pl.Tr} {gs gs' : List Nat} {t : Pl.Tr} {N : Nat}
    (hS : Stk B wr v d ts gs) (hsz : wr.heap.size ≤ w2.heap.size) (hB : B ≤ wr.heap.size) (hN : wr.heap.size ≤ N) (hN2 : N < w2.heap.size)
    (hk : ∀ g o u, g < wr.heap.size → wr.cell? ⟨g, o, none⟩ = some u → w2.cell? ⟨g, o, none⟩ = some u)
    (hT : Forest wr (fun k => B ≤ k ∧ k < wr.heap.size ∧ v.ownBlock ≠ some k) ts' gs')
    (hnode : Node w2 (fun k => B ≤ k ∧ k < w2.heap.size ∧ v.ownBlock ≠ some k) t N)
    (hvc : vc.ownBlock = v.ownBlock)
    (own3 : w3.ownsRow B 124 1 v' (m + 1) (Pt (gs'.reverse ++ [N])))
    (hg : (w2.alloc (.cells #[.pointer (some ⟨N, 0, none⟩)] 124)).grownBy w3 vc.ownBlock)
    (hat : v'.ownBlock = vc.ownBlock ∨ v'.ownBlock = some (w2.heap.size + 1)) : Stk B w3 v' (m + 1) (t :: ts') (N :: gs') := by
  have hz3 := hg.size
  simp at hz3
  have hkeep : ∀ g o u, g < w2.heap.size → v.ownBlock ≠ some g → w2.cell? ⟨g, o, none⟩ = some u → w3.cell? ⟨g, o, none⟩ = some u := by
    intro g o u hg1 hne hc
    refine hg.cell (a := ⟨g, o, none⟩) ?_ (fun e => hne (by rw [← hvc]; exact e.symm))
    rw [World.cell?_alloc_lt w2 _ ⟨g, o, none⟩ hg1]
    exact hc
  have hSS : ∀ g, g < w2.heap.size → v.ownBlock ≠ some g → v'.ownBlock ≠ some g := by
    intro g hg1 hne he
    rcases hat with h | h
    · rw [hvc] at h; rw [h] at he; exact hne he
    · rw [h] at he; injection he with he; omega
  refine ⟨by simpa using own3, ?_, ?_⟩
  · exact hnode.keep (fun g o u h hc => hkeep g o u h.2.1 h.2.2 hc) (fun g h => ⟨h.1, by omega, hSS g h.2.1 h.2.2⟩)
  · exact hT.keep (fun g o u h hc => hkeep g o u (by omega) h.2.2 (hk g o u h.2.1 hc)) (fun g h => ⟨h.1, by omega, hSS g (by omega) h.2.2⟩)
theorem keep_alloc {wr w1 : World} (h : Below wr.heap.size wr w1) (ob : Obj) (g o : Nat) (u : Value) (hg : g < wr.heap.size) (hc : wr.cell? ⟨g, o, none⟩ = some u) : (w1.alloc ob).cell? ⟨g, o, none⟩ = some u := by
  have hz := h.size
  rw [World.cell?_alloc_lt w1 ob ⟨g, o, none⟩ (show g < w1.heap.size by omega)]
  exact (h.cell (p := ⟨g, o, none⟩) hg).trans hc
/-- A leaf's node was made. -/
theorem node_leaf {B : Nat} {wr w1 : World} {v vc : Value} {s : Int} (hb : Below wr.heap.size wr w1) (hB : B ≤ wr.heap.size) (hv : ∀ k, v.ownBlock = some k → k < wr.heap.size) (hvc : ∃ A c, vc = .slice A 0 c) :
    Node (w1.alloc (.cells #[.int .i64 s, vc] 143)) (fun k => B ≤ k ∧ k < (w1.alloc (.cells #[.int .i64 s, vc] 143)).heap.size ∧ v.ownBlock ≠ some k) (.leaf s) w1.heap.size := by
  have hz := hb.size
  have bl := Blk.new w1 143 #[.int .i64 s, vc]
  obtain ⟨A, c, rfl⟩ := hvc
  exact ⟨⟨by omega, by simp, fun h => by have := hv _ h; omega⟩, (bl.cell 0).trans rfl, A, c, (bl.cell 1).trans rfl⟩
/-- The node of a step that takes one was made. -/
theorem node_un {B K c : Nat} {wr w1 : World} {v : Value} {s : Int} {t : Pl.Tr} {ga : Nat} (hb : Below wr.heap.size wr w1) (hB : B ≤ wr.heap.size) (hv : ∀ k, v.ownBlock = some k → k < wr.heap.size)
    (hK : wr.heap.size ≤ K) (hK2 : K < w1.heap.size) (hc : w1.cell? ⟨K, 0, none⟩ = some (.pointer (some ⟨ga, 0, none⟩)))
    (hN : Node wr (fun k => B ≤ k ∧ k < wr.heap.size ∧ v.ownBlock ≠ some k) t ga) :
    Node (w1.alloc (.cells #[.int .i64 s, .slice (some ⟨K, 0, none⟩) 1 c] 143)) (fun k => B ≤ k ∧ k < (w1.alloc (.cells #[.int .i64 s, .slice (some ⟨K, 0, none⟩) 1 c] 143)).heap.size ∧ v.ownBlock ≠ some k) (.un s t) w1.heap.size := by
  have hz := hb.size
  have bl := Blk.new w1 143 #[.int .i64 s, .slice (some ⟨K, 0, none⟩) 1 c]
  refine ⟨⟨by omega, by simp, fun h => by have := hv _ h; omega⟩, (bl.cell 0).trans rfl, K, c, ga, ⟨by omega, by simp; omega, fun h => by have := hv _ h; omega⟩, (bl.cell 1).trans rfl, ?_, ?_⟩
  · rw [World.cell?_alloc_lt w1 _ ⟨K, 0, none⟩ hK2]; exact hc
  · exact hN.keep (fun g o u h hc => keep_alloc hb _ g o u h.2.1 hc) (fun g h => ⟨h.1, by simp; omega, h.2.2⟩)
/-- The node of a step that takes two was made. -/
theorem node_bin {B K c : Nat} {wr w1 : World} {v : Value} {s : Int} {t t' : Pl.Tr} {ga gb : Nat} (hb : Below wr.heap.size wr w1) (hB : B ≤ wr.heap.size) (hv : ∀ k, v.ownBlock = some k → k < wr.heap.size)
    (hK : wr.heap.size ≤ K) (hK2 : K < w1.heap.size) (hc : w1.cell? ⟨K, 0, none⟩ = some (.pointer (some ⟨ga, 0, none⟩))) (hc' : w1.cell? ⟨K, 1, none⟩ = some (.pointer (some ⟨gb, 0, none⟩)))
    (hN : Node wr (fun k => B ≤ k ∧ k < wr.heap.size ∧ v.ownBlock ≠ some k) t ga) (hN' : Node wr (fun k => B ≤ k ∧ k < wr.heap.size ∧ v.ownBlock ≠ some k) t' gb) :
    Node (w1.alloc (.cells #[.int .i64 s, .slice (some ⟨K, 0, none⟩) 2 c] 143)) (fun k => B ≤ k ∧ k < (w1.alloc (.cells #[.int .i64 s, .slice (some ⟨K, 0, none⟩) 2 c] 143)).heap.size ∧ v.ownBlock ≠ some k) (.bin s t t') w1.heap.size := by
  have hz := hb.size
  have bl := Blk.new w1 143 #[.int .i64 s, .slice (some ⟨K, 0, none⟩) 2 c]
  refine ⟨⟨by omega, by simp, fun h => by have := hv _ h; omega⟩, (bl.cell 0).trans rfl, K, c, ga, gb, ⟨by omega, by simp; omega, fun h => by have := hv _ h; omega⟩, (bl.cell 1).trans rfl, ?_, ?_, ?_, ?_⟩
  · rw [World.cell?_alloc_lt w1 _ ⟨K, 0, none⟩ hK2]; exact hc
  · rw [World.cell?_alloc_lt w1 _ ⟨K, 1, none⟩ hK2]; exact hc'
  · exact hN.keep (fun g o u h hc => keep_alloc hb _ g o u h.2.1 hc) (fun g h => ⟨h.1, by simp; omega, h.2.2⟩)
  · exact hN'.keep (fun g o u h hc => keep_alloc hb _ g o u h.2.1 hc) (fun g h => ⟨h.1, by simp; omega, h.2.2⟩)
theorem forest_1 {w : World} {S : Nat → Prop} {ts : List Pl.Tr} {gs : List Nat} {m : Nat} (h : Forest w S ts gs) (hl : ts.length = m + 1) :
    ∃ t r g q, ts = t :: r ∧ gs = g :: q ∧ r.length = m ∧ q.length = m ∧ Node w S t g ∧ Forest w S r q := by
  match ts, gs, h with
  | t :: r, g :: q, h =>
    have h1 := Forest.len h.2
    simp at hl
    exact ⟨t, r, g, q, rfl, rfl, hl, by omega, h.1, h.2⟩
  | [], [], h => simp at hl
theorem own_cell {w : World} {base n g c : Nat} {e : TypeId} {xs : List Value} (h : w.ownsRow base e 1 (.slice (some ⟨g, 0, none⟩) n c) n xs) {j : Nat} {u : Value} (hu : xs[j]? = some u) : w.cell? ⟨g, j, none⟩ = some u := by
  have h3 := h.cells (g := g) rfl j u hu
  have e : (⟨g, 0, none⟩ : Addr).add j = ⟨g, j, none⟩ := by
    unfold Addr.add
    split
    · rename_i h0; subst h0; rfl
    · simp
  rwa [e] at h3
theorem pt_mid {q : List Nat} {m g : Nat} {l : List Nat} (h : q.length = m) : (Pt (q.reverse ++ g :: l))[m]? = some (.pointer (some ⟨g, 0, none⟩)) := by
  apply Pt_get
  rw [List.getElem?_append_right (by simp; omega)]
  simp [h]
theorem pt_take {q : List Nat} {m : Nat} {l : List Nat} (h : q.length = m) : (Pt (q.reverse ++ l)).take m = Pt q.reverse := by
  simp only [Pt, List.map_append]
  exact List.take_left' (by simp [h])
/-- A first element in a row of its own. -/
theorem own_first {B : Nat} (w : World) (e : TypeId) (u z : Value) (cap b0 : Nat) (hb0 : w.heap.size = b0) (hz : z.cells.size = 1) (hB : B ≤ w.heap.size) (h1 : 1 ≤ cap) (h2 : cap ≤ maxLen) :
    (w.alloc (.cells (#[u] ++ Builtin.zeroCells #[z] (cap - 1)) e)).drew.ownsRow B e 1 (.slice (some ⟨b0, 0, none⟩) 1 cap) 1 [u] ∧
    w.grownBy (w.alloc (.cells (#[u] ++ Builtin.zeroCells #[z] (cap - 1)) e)).drew none := by
  subst hb0
  refine ⟨⟨rfl, .inr ⟨w.heap.size, cap, _, rfl, hB, heap_alloc_new w.drew _, h1, h2, ?_, ?_⟩⟩, ⟨rfl, rfl, rfl, by simp, fun k hk _ => heap_alloc_old w.drew _ hk⟩⟩
  · simp only [Array.size_append, size_zeroCells, List.size_toArray, List.length_cons, List.length_nil]
    omega
  · simp
def Built (t : Pl.Tr) (w : World) (e : Ending) (w' : World) : Prop := ∃ g, e = .returned (.pointer (some ⟨g, 0, none⟩)) ∧ Node w' (fun k => w.heap.size ≤ k ∧ k < w'.heap.size) t g ∧ Below w.heap.size w w'
theorem steps_snoc {xs : List Int} {j : Nat} {s : Int} (h : xs[j]? = some s) : (xs.take (j + 1)).foldl Pl.stepR [] = Pl.stepR ((xs.take j).foldl Pl.stepR []) s := by
  rw [Pl.take_snoc h, List.foldl_append]; rfl
theorem steps_len {xs : List Int} {j : Nat} {d : Int} (h : Pl.scan (xs.take j) 0 = some d) : (((xs.take j).foldl Pl.stepR []).length : Int) = d :=
  (Pl.run_scan (xs.take j) 0 d [] h rfl (by simp)).1
set_option maxRecDepth 100000 in
set_option maxHeartbeats 4000000 in
theorem impl_build (A : Option Addr) (n c B : Nat) (xs : List Int) (w : World) (hx : Rd w B A n (I64 xs)) (hB : B ≤ w.heap.size) (he : Pl.exprValid xs = true) :
    Calls Tryz.prog 94 #[.slice A n c] w (Built (Pl.tree xs) w) := by
  have lx : xs.length = n := by have := hx.len; rwa [I64_len] at this
  obtain ⟨e0, e1, e2⟩ := Pl.valid_t he
  rw [lx] at e0 e1
  obtain ⟨b, off, rfl, hbl, hc⟩ := hx.pos (by omega)
  have hfin := Lib.hid (Pl.run_valid he).1
  have HC := Lib.hid hc
  have hL := Lib.hid lx
  have HSC := Lib.hid e2
  clear hc he e2 lx hx
  go_enter Tryz.func94, Tryz.ntmps94
  go_wp2_with fail
  go_loopw [3, 10] (fun vs i wr => ∃ (j d : Nat) (ts : List Pl.Tr) (gs : List Nat), j ≤ n ∧ i = .int .i64 j ∧ Hid ((xs.take j).foldl Pl.stepR [] = ts) ∧ Hid (Pl.scan (xs.take j) 0 = some (d : Int)) ∧ d ≤ j ∧ Hid (ts.length = d) ∧
    Stk w.heap.size wr vs d ts gs ∧ Below w.heap.size w wr) (fun _ i _ => n - (intOf i).toNat)
  case atStart => exact ⟨0, 0, [], [], by omega, rfl, Lib.hid rfl, Lib.hid (by simp [Pl.scan]), by omega, Lib.hid rfl, ⟨World.ownsRow_nil _ _ _ _, trivial⟩, Below.refl _ _⟩
  case round =>
    obtain ⟨j, d, ts, gs, hj, rfl, hts, hscan, hdj, htl, stk, hb⟩ := hrel
    have hz := hb.size
    by_cases hlt : j < n
    · obtain ⟨s, es⟩ : ∃ s, xs[j]? = some s := ⟨_, List.getElem?_eq_getElem (by have := hL.out; omega)⟩
      have c1 : wr.cell? ⟨b, off + j, none⟩ = some (.int .i64 s) := (hb.cell (p := ⟨b, off + j, none⟩) (show b < w.heap.size by omega)).trans (HC.out j _ (I64_get es))
      obtain ⟨⟨s0, s1⟩, ht⟩ := Pl.scan_at HSC.out es hscan.out
      have HN := Lib.hid (steps_snoc es)
      have HS := Lib.hid (Pl.scan_snoc es hscan.out s0 s1 ht)
      have hin : (j : Int) < (n : Int) := by omega
      have hj0 : (0 : Int) ≤ j := by omega
      clear es
      have hvl := stk.lt
      by_cases t0 : s < 12
      · have ht0 := Pl.takes_0 t0
        rw [ht0] at HS ht
        have hpu := Lib.hid (Pl.stepR_0 (ts := ts) t0)
        rcases stk.own.2 with ⟨hv, hd0⟩ | ⟨g, cs, cur, hv, hg0, hgh, hdc, hcm, hcs, hct⟩
        · subst hv
          subst hd0
          go_wp2_with (first | (go_at_call 113; refine (impl_takes _ _).mono ?_; rintro e w' ⟨rfl, rfl⟩))
          refine (clone_nodes_nil _).mono ?_
          rintro e w' ⟨rfl, rfl⟩
          have hcut := grownCap_ge wr 1 0 124
          have hcut2 := grownCap_le_maxLen wr 1 0 124 (by simp [maxLen])
          unfold grownCap at hcut hcut2
          have HCUT := Lib.hid hcut
          have HCUT2 := Lib.hid hcut2
          clear hcut hcut2
          go_wp2_with fail
          obtain ⟨own1, hg1⟩ := own_first (B := w.heap.size) ((wr.alloc (.cells #[.int .i64 s, .slice none 0 0] 143)).alloc (.cells #[.pointer (some ⟨wr.heap.size, 0, none⟩)] 124)) 124 (.pointer (some ⟨wr.heap.size, 0, none⟩)) (.pointer none) _ (wr.heap.size + 1 + 1) (by simp) rfl (by simp; omega) HCUT.out HCUT2.out
          have hgs : gs = [] := List.eq_nil_of_length_eq_zero (by rw [← Forest.len stk.trees]; exact htl.out)
          subst hgs
          have hb1 := (((hb.alloc hz (.cells #[.int .i64 s, .slice none 0 0] 143)).alloc (by simp; omega) (.cells #[.pointer (some ⟨wr.heap.size, 0, none⟩)] 124)).grown hg1 (by simp; omega) (fun k hk => by cases hk))
          exact ⟨⟨j + 1, 1, .leaf s :: ts, [wr.heap.size], by omega, by go_num, Lib.hid (by rw [HN.out, hts.out, hpu.out]), Lib.hid (by rw [HS.out]; simp), by omega, Lib.hid (by simp [htl.out]),
            stk_push stk (by simp) hz (Nat.le_refl _) (by simp) (fun g o u h hc => keep_alloc (Below.refl _ _) _ g o u h hc) stk.trees (node_leaf (Below.refl _ _) hz hvl ⟨_, _, rfl⟩) rfl own1 hg1 (.inr (by simp [Value.ownBlock])), hb1⟩, by simp [intOf]; omega⟩
        · subst hv
          have hcap : (d : Int) ≤ (cs : Int) := by omega
          have hgl : g < wr.heap.size := hvl g rfl
          rcases (by omega : cs = d ∨ d < cs) with rfl | hcd
          all_goals
            have hgo := Pt_len gs
            go_wp2_with (first | (go_at_call 113; refine (impl_takes _ _).mono ?_; rintro e w' ⟨rfl, rfl⟩))
            refine (clone_nodes g _ 0 _ [] _ rfl (by simp) hgl (by simp) (by omega)).mono ?_
            rintro e w' ⟨vc, rfl, ownc, hbc⟩
            have hzc := hbc.size
            obtain ⟨Ac, cc, rfl⟩ := own_form ownc
            have ownS := own_below stk.own hbc
            go_wp2_with (at_builtin; refine app_ptr rfl (.tmp 28) (.tmp 30) rfl w.heap.size (.slice (some ⟨g, 0, none⟩) _ cs) _ gs.reverse w'.heap.size rfl (ownS.alloc _) _ (by simp) rfl (by omega) (by simp; omega) ?_; intro v' w1 own1 hb1 hg1 hat1)
            exact ⟨⟨j + 1, _ + 1, .leaf s :: ts, w'.heap.size :: gs, by omega, by go_num, Lib.hid (by rw [HN.out, hts.out, hpu.out]), Lib.hid (by rw [HS.out]; simp), by omega, Lib.hid (by simp [htl.out]),
              stk_push stk (by simp; omega) hz hzc (by simp) (fun g o u h hc => keep_alloc hbc _ g o u h hc) stk.trees (node_leaf hbc hz hvl ⟨_, _, rfl⟩) rfl own1 hg1 hat1, ((below_step hb hbc hz).alloc (by omega) _).trans hb1⟩, by simp [intOf]; omega⟩
      · rcases stk.own.2 with ⟨hv, hd0⟩ | ⟨g, cs, cur, hv, hg0, hgh, hdc, hcm, hcs, hct⟩
        · exfalso
          have := Pl.takes_bd s
          by_cases t1 : s < 15
          · have := Pl.takes_1 (by omega) t1; omega
          · have := Pl.takes_2 (s := s) (by omega); omega
        · subst hv
          have hgl : g < wr.heap.size := hvl g rfl
          clear hgh hcs hct
          by_cases t1 : s < 15
          · have ht1 := Pl.takes_1 (by omega) t1
            rw [ht1] at HS ht
            obtain ⟨m, rfl⟩ : ∃ m, d = m + 1 := ⟨d - 1, by omega⟩
            have hcap : (m : Int) + 1 ≤ (cs : Int) := by omega
            obtain ⟨ta, tr, ga, gr, rfl, rfl, hlr, hlg, nda, fr⟩ := forest_1 stk.trees htl.out
            have hpu := Lib.hid (Pl.stepR_1 (r := tr) (a := ta) (by omega) t1)
            have cg : wr.cell? ⟨g, m, none⟩ = some (.pointer (some ⟨ga, 0, none⟩)) := by
              have := stk.own
              rw [List.reverse_cons] at this
              exact own_cell this (pt_mid hlg)
            have hm1 : (m : Int) + 1 - 1 = (m : Int) := by omega
            have hm0 : (0 : Int) ≤ (m : Int) := by omega
            have hmc : (m : Int) ≤ (cs : Int) := by omega
            have hmc' : (m : Int) ≤ (m : Int) + 1 := by omega
            have hmd : m + 1 - m = 1 := by omega
            have hne : ¬ cs = m := by omega
            have HLR := Lib.hid hlr
            have HLG := Lib.hid hlg
            clear hlr hlg
            go_wp2_with (first | (go_at_call 113; refine (impl_takes _ _).mono ?_; rintro e w' ⟨rfl, rfl⟩))
            refine (clone_nodes g _ 1 _ [.pointer (some ⟨ga, 0, none⟩)] _ rfl (by intro j u hu; rcases j with _ | j <;> simp at hu; subst hu; exact cg) hgl (by simp [Value.oneCell']) (by omega)).mono ?_
            rintro e w' ⟨vc, rfl, ownc, hbc⟩
            have hzc := hbc.size
            obtain ⟨K, cc, rfl, hK0, hK1⟩ := own_lt ownc (by omega)
            have ck := own_cell ownc (j := 0) rfl
            have ownS0 := own_cut (own_below stk.own hbc) (m := m) (by omega)
            have hptk : (Pt (ga :: gr).reverse).take m = Pt gr.reverse := by rw [List.reverse_cons]; exact pt_take HLG.out
            rw [hptk] at ownS0
            clear hptk
            go_wp2_with (at_builtin; refine app_ptr rfl (.tmp 28) (.tmp 30) rfl w.heap.size (.slice (some ⟨g, 0, none⟩) m cs) m gr.reverse w'.heap.size rfl (ownS0.alloc _) _ (by simp) rfl (by omega) (by simp; omega) ?_; intro v' w1 own1 hb1 hg1 hat1)
            exact ⟨⟨j + 1, m + 1, .un s ta :: tr, w'.heap.size :: gr, by omega, by go_num, Lib.hid (by rw [HN.out, hts.out, hpu.out]), Lib.hid (by rw [HS.out]; simp), by omega, Lib.hid (by simp [HLR.out]),
              stk_push stk (by simp; omega) hz hzc (by simp) (fun g o u h hc => keep_alloc hbc _ g o u h hc) fr (node_un hbc hz hvl hK0 hK1 ck nda) rfl own1 hg1 hat1, ((below_step hb hbc hz).alloc (by omega) _).trans hb1⟩, by simp [intOf]; omega⟩
          · have ht2 := Pl.takes_2 (s := s) (by omega)
            rw [ht2] at HS ht
            obtain ⟨m, rfl⟩ : ∃ m, d = m + 2 := ⟨d - 2, by omega⟩
            have hcap : (m : Int) + 2 ≤ (cs : Int) := by omega
            obtain ⟨tb, tr', gb, gr', rfl, rfl, hlr', hlg', ndb, fr'⟩ := forest_1 (m := m + 1) stk.trees htl.out
            obtain ⟨ta, tr, ga, gr, rfl, rfl, hlr, hlg, nda, fr⟩ := forest_1 fr' hlr'
            have hpu := Lib.hid (Pl.stepR_2 (r := tr) (a := ta) (b := tb) (s := s) (by omega))
            have hrev : (gb :: ga :: gr).reverse = gr.reverse ++ [ga, gb] := by simp
            have cg : wr.cell? ⟨g, m, none⟩ = some (.pointer (some ⟨ga, 0, none⟩)) := by
              have := stk.own
              rw [hrev] at this
              exact own_cell this (pt_mid hlg)
            have cg' : wr.cell? ⟨g, m + 1, none⟩ = some (.pointer (some ⟨gb, 0, none⟩)) := by
              have := stk.own
              rw [show (gb :: ga :: gr).reverse = (ga :: gr).reverse ++ [gb] by simp] at this
              exact own_cell this (pt_mid (by simp [hlg]))
            have hm1 : (m : Int) + 2 - 2 = (m : Int) := by omega
            have hm0 : (0 : Int) ≤ (m : Int) := by omega
            have hmc : (m : Int) ≤ (cs : Int) := by omega
            have hmc' : (m : Int) ≤ (m : Int) + 2 := by omega
            have hmd : m + 2 - m = 2 := by omega
            have hne : ¬ cs = m := by omega
            have HLR := Lib.hid hlr
            have HLG := Lib.hid hlg
            have HRV := Lib.hid hrev
            clear hlr hlg hlr' hlg' fr' hrev
            go_wp2_with (first | (go_at_call 113; refine (impl_takes _ _).mono ?_; rintro e w' ⟨rfl, rfl⟩))
            refine (clone_nodes g _ 2 _ [.pointer (some ⟨ga, 0, none⟩), .pointer (some ⟨gb, 0, none⟩)] _ rfl (by intro j u hu; rcases j with _ | _ | j <;> simp at hu <;> subst hu; exact cg; exact cg') hgl (by simp [Value.oneCell']) (by omega)).mono ?_
            rintro e w' ⟨vc, rfl, ownc, hbc⟩
            have hzc := hbc.size
            obtain ⟨K, cc, rfl, hK0, hK1⟩ := own_lt ownc (by omega)
            have ck := own_cell ownc (j := 0) rfl
            have ck' := own_cell ownc (j := 1) rfl
            have ownS0 := own_cut (own_below stk.own hbc) (m := m) (by omega)
            have hptk : (Pt (gb :: ga :: gr).reverse).take m = Pt gr.reverse := by rw [HRV.out]; exact pt_take HLG.out
            rw [hptk] at ownS0
            clear hptk
            go_wp2_with (at_builtin; refine app_ptr rfl (.tmp 28) (.tmp 30) rfl w.heap.size (.slice (some ⟨g, 0, none⟩) m cs) m gr.reverse w'.heap.size rfl (ownS0.alloc _) _ (by simp) rfl (by omega) (by simp; omega) ?_; intro v' w1 own1 hb1 hg1 hat1)
            exact ⟨⟨j + 1, m + 1, .bin s ta tb :: tr, w'.heap.size :: gr, by omega, by go_num, Lib.hid (by rw [HN.out, hts.out, hpu.out]), Lib.hid (by rw [HS.out]; simp; omega), by omega, Lib.hid (by simp [HLR.out]),
              stk_push stk (by simp; omega) hz hzc (by simp) (fun g o u h hc => keep_alloc hbc _ g o u h hc) fr (node_bin hbc hz hvl hK0 hK1 ck ck' nda ndb) rfl own1 hg1 hat1, ((below_step hb hbc hz).alloc (by omega) _).trans hb1⟩, by simp [intOf]; omega⟩
    · obtain rfl : j = n := by omega
      have hts1 := hts.out
      rw [show xs.take j = xs by rw [← hL.out, List.take_length], hfin.out] at hts1
      have hd1 : d = 1 := by rw [← htl.out, ← hts1]; rfl
      subst hd1
      subst hts1
      obtain ⟨ta, tr, ga, gr, he, rfl, hlr, hlg, nda, fr⟩ := forest_1 (m := 0) stk.trees rfl
      injection he with he he'
      subst he
      have hgr : gr = [] := List.eq_nil_of_length_eq_zero hlg
      subst hgr
      obtain ⟨g, cs, hv, hg0, hg1⟩ := own_lt stk.own (by omega)
      subst hv
      have cg : wr.cell? ⟨g, 0, none⟩ = some (.pointer (some ⟨ga, 0, none⟩)) := own_cell stk.own rfl
      clear hlr hlg he' hts htl
      go_wp2
      go_ret
      exact ⟨ga, rfl, nda.keep (fun _ _ _ _ h => h) (fun g h => ⟨h.1, h.2.1⟩), hb⟩
end Go.Proofs.YtamhpgledbmnoaaGreatDoor
