/-
  The messages of the statements as plain data, and the state of 'both'. No walk.
-/
import Derived.Test.YtkclgemkeifbaaaMsgRead
import Derived.Test.YtkclgemkeifbaaaRegionT
import Derived.Deep.AppendLies
namespace Go.Proofs.Ytkclgemkeifbaaa
open Go.RowKit Go.Proofs

structure LMsg where
  kind : Int
  node : Int
  walk : Int
  high : Bool
  nodes : List Int
  ids : List MRec
  recs : List MRec
abbrev LMsg.arr (m : LMsg) (p : MsgP) : Array Value := #[.int .i64 m.kind, .int .i64 m.node, .int .i64 m.walk, .bool m.high, .slice p.a1 m.nodes.length p.c1, .slice p.a2 m.ids.length p.c2, .slice p.a3 m.recs.length p.c3]
abbrev LMsg.cells (m : LMsg) (p : MsgP) : List Value := [.int .i64 m.kind, .int .i64 m.node, .int .i64 m.walk, .bool m.high, .slice p.a1 m.nodes.length p.c1, .slice p.a2 m.ids.length p.c2, .slice p.a3 m.recs.length p.c3]
abbrev LMsg.val (m : LMsg) (p : MsgP) : Value := .agg #[.int .i64 m.kind, .int .i64 m.node, .int .i64 m.walk, .bool m.high, .slice p.a1 m.nodes.length p.c1, .slice p.a2 m.ids.length p.c2, .slice p.a3 m.recs.length p.c3]
structure LMsgAt (w : World) (m : LMsg) (p : MsgP) : Prop where
  nodes : SlA w p.a1 m.nodes.length p.c1 (m.nodes.flatMap MInt.cells)
  ids : SlA w p.a2 m.ids.length p.c2 (m.ids.flatMap MRec.cells)
  recs : SlA w p.a3 m.recs.length p.c3 (m.recs.flatMap MRec.cells)
theorem LMsgAt.keep {w w' : World} {m : LMsg} {p : MsgP} (h : LMsgAt w m p) (f : Gr w w') : LMsgAt w' m p := ⟨h.nodes.old f (fun _ h => h.elim), h.ids.old f (fun _ h => h.elim), h.recs.old f (fun _ h => h.elim)⟩
/-- texts are no longer than a machine's integer; versions are numbers of 64 bits -/
structure LMsg.Ok (m : LMsg) : Prop where
  ids : ∀ x ∈ m.ids, x.key.size ≤ 9223372036854775807 ∧ (0 ≤ x.ver ∧ x.ver < 18446744073709551616)
  recs : ∀ x ∈ m.recs, x.key.size ≤ 9223372036854775807 ∧ x.data.size ≤ 9223372036854775807 ∧ (0 ≤ x.ver ∧ x.ver < 18446744073709551616)

def cutS (s : ByteArray) : ByteArray := s.extract 0 (min s.size 70)
def LId (x : MRec) : MId := ⟨cutS x.key, x.ver⟩
def LRec (x : MRec) : MRec := { x with key := cutS x.key, data := cutS x.data }
def LMsg.msg (m : LMsg) : Msg := ⟨m.kind, m.node, m.walk, m.high, m.nodes.take 70, (m.ids.take 70).map LId, (m.recs.take 20).map LRec⟩
theorem LMsg.msg_fits {m : LMsg} (h : m.Ok) : m.msg.fits := by
  constructor
  · intro x hx
    obtain ⟨y, hy, rfl⟩ := List.mem_map.1 hx
    exact (h.ids y (List.mem_of_mem_take hy)).2
  · intro x hx
    obtain ⟨y, hy, rfl⟩ := List.mem_map.1 hx
    exact (h.recs y (List.mem_of_mem_take hy)).2.2

theorem LMsgAt.node {w : World} {m : LMsg} {p : MsgP} (h : LMsgAt w m p) (i : Nat) (hi : i < m.nodes.length) : ∃ b o, p.a1 = some ⟨b, o, none⟩ ∧ w.cell? ⟨b, o + i, none⟩ = some (.int .i64 m.nodes[i]) := by
  obtain ⟨b, o, e, hc⟩ := h.nodes.elem (f := MInt.cells) (n := 1) (fun _ => rfl) (by decide) i hi
  exact ⟨b, o, e, by have := hc 0 _ rfl; simpa using this⟩
theorem LMsgAt.id {w : World} {m : LMsg} {p : MsgP} (h : LMsgAt w m p) (i : Nat) (hi : i < m.ids.length) : ∃ b o, p.a2 = some ⟨b, o, none⟩ ∧ w.cell? ⟨b, o + i * 6, none⟩ = some (.string m.ids[i].key) ∧ w.cell? ⟨b, o + i * 6 + 1, none⟩ = some (.int .u64 m.ids[i].ver) := by
  obtain ⟨b, o, e, hc⟩ := h.ids.elem (f := MRec.cells) (n := 6) (fun _ => rfl) (by decide) i hi
  exact ⟨b, o, e, by have := hc 0 _ rfl; simpa using this, hc 1 _ rfl⟩
theorem LMsgAt.rcd {w : World} {m : LMsg} {p : MsgP} (h : LMsgAt w m p) (i : Nat) (hi : i < m.recs.length) : ∃ b o, p.a3 = some ⟨b, o, none⟩ ∧ w.cell? ⟨b, o + i * 6, none⟩ = some (.string m.recs[i].key) ∧ w.cell? ⟨b, o + i * 6 + 1, none⟩ = some (.int .u64 m.recs[i].ver) ∧
    w.cell? ⟨b, o + i * 6 + 2, none⟩ = some (.int .i64 m.recs[i].origin) ∧ w.cell? ⟨b, o + i * 6 + 3, none⟩ = some (.int .i64 m.recs[i].age) ∧ w.cell? ⟨b, o + i * 6 + 4, none⟩ = some (.bool m.recs[i].gone) ∧ w.cell? ⟨b, o + i * 6 + 5, none⟩ = some (.string m.recs[i].data) := by
  obtain ⟨b, o, e, hc⟩ := h.recs.elem (f := MRec.cells) (n := 6) (fun _ => rfl) (by decide) i hi
  exact ⟨b, o, e, by have := hc 0 _ rfl; simpa using this, hc 1 _ rfl, hc 2 _ rfl, hc 3 _ rfl, hc 4 _ rfl, hc 5 _ rfl⟩

/-- while both messages are made: the blocks of the statement's message, of the two results and of the two messages -/
structure BothSt (W : World) (x : LMsg) (xp : MsgP) (ca cb : Array Value) (w : World) : Prop where
  fr : Gr W w
  sz : W.heap.size + 5 ≤ w.heap.size
  bx : Bx w W.heap.size (x.cells xp)
  za : w.heap[W.heap.size + 1]? = some (.cells (Msg.zero.arr MsgP.zero) 30 (0, 0))
  zb : w.heap[W.heap.size + 2]? = some (.cells (Msg.zero.arr MsgP.zero) 34 (0, 0))
  ba : w.heap[W.heap.size + 3]? = some (.cells ca 30 (0, 0))
  bb : w.heap[W.heap.size + 4]? = some (.cells cb 34 (0, 0))
section
variable {W : World} {x : LMsg} {xp : MsgP} {ca cb : Array Value} {w w' : World}
theorem BothSt.grow {S : Nat → Prop} (h : BothSt W x xp ca cb w) (f : Fr S w w') (hS : ∀ k, S k → W.heap.size + 5 ≤ k) : BothSt W x xp ca cb w' := by
  have hsz := h.sz
  have hn : ∀ j, j < 5 → ¬ S (W.heap.size + j) := fun j hj hs => by have := hS _ hs; omega
  refine ⟨Fr.trans h.fr f (fun k hk => .inr (by have := hS k hk; omega)), Nat.le_trans h.sz f.size, h.bx.keep f (hn 0 (by omega)), ?_, ?_, ?_, ?_⟩
  · rw [f.block _ (by omega) (hn 1 (by omega))]; exact h.za
  · rw [f.block _ (by omega) (hn 2 (by omega))]; exact h.zb
  · rw [f.block _ (by omega) (hn 3 (by omega))]; exact h.ba
  · rw [f.block _ (by omega) (hn 4 (by omega))]; exact h.bb
theorem BothSt.gr (h : BothSt W x xp ca cb w) (f : Gr w w') : BothSt W x xp ca cb w' := h.grow f (fun _ h => h.elim)
theorem BothSt.drew (h : BothSt W x xp ca cb w) : BothSt W x xp ca cb w.drew := h.gr (Fr.refl _ _).drew
theorem BothSt.setA (h : BothSt W x xp ca cb w) (i : Nat) (v : Value) : BothSt W x xp (ca.setIfInBounds i v) cb (w.setCell ⟨W.heap.size + 3, i, none⟩ v) := by
  have f : Fr (fun k => k = W.heap.size + 3) w (w.setCell ⟨W.heap.size + 3, i, none⟩ v) := (Fr.refl (fun k => k = W.heap.size + 3) w).setCell (p := ⟨W.heap.size + 3, i, none⟩) (.inl rfl) v
  have hsz := h.sz
  refine ⟨Fr.trans h.fr f (fun k hk => .inr (by omega)), Nat.le_trans h.sz f.size, h.bx.keep f (by omega), ?_, ?_, heap_set1 h.ba i v, ?_⟩
  · rw [f.block _ (by omega) (by omega)]; exact h.za
  · rw [f.block _ (by omega) (by omega)]; exact h.zb
  · rw [f.block _ (by omega) (by omega)]; exact h.bb
theorem BothSt.setB (h : BothSt W x xp ca cb w) (i : Nat) (v : Value) : BothSt W x xp ca (cb.setIfInBounds i v) (w.setCell ⟨W.heap.size + 4, i, none⟩ v) := by
  have f : Fr (fun k => k = W.heap.size + 4) w (w.setCell ⟨W.heap.size + 4, i, none⟩ v) := (Fr.refl (fun k => k = W.heap.size + 4) w).setCell (p := ⟨W.heap.size + 4, i, none⟩) (.inl rfl) v
  have hsz := h.sz
  refine ⟨Fr.trans h.fr f (fun k hk => .inr (by omega)), Nat.le_trans h.sz f.size, h.bx.keep f (by omega), ?_, ?_, ?_, heap_set1 h.bb i v⟩
  · rw [f.block _ (by omega) (by omega)]; exact h.za
  · rw [f.block _ (by omega) (by omega)]; exact h.zb
  · rw [f.block _ (by omega) (by omega)]; exact h.ba
theorem BothSt.cellA (h : BothSt W x xp ca cb w) (j : Nat) (v : Value) (hj : ca[j]? = some v) : w.cell? ⟨W.heap.size + 3, j, none⟩ = some v := by rw [Lib.cell_of_heap h.ba]; exact hj
theorem BothSt.cellB (h : BothSt W x xp ca cb w) (j : Nat) (v : Value) (hj : cb[j]? = some v) : w.cell? ⟨W.heap.size + 4, j, none⟩ = some v := by rw [Lib.cell_of_heap h.bb]; exact hj
theorem BothSt.zA (h : BothSt W x xp ca cb w) (j : Nat) : w.frozen? ⟨W.heap.size + 3, j, none⟩ = false := Lib.frozen_of_heap h.ba j
theorem BothSt.zB (h : BothSt W x xp ca cb w) (j : Nat) : w.frozen? ⟨W.heap.size + 4, j, none⟩ = false := Lib.frozen_of_heap h.bb j
end

/-- cells at a block, as an append asks for them -/
def News (w : World) (q : Nat) (cs : List Value) : Prop := ∀ (j : Nat) (u : Value), cs[j]? = some u → w.cell? ((⟨q, 0, none⟩ : Addr).add j) = some u
theorem News.keep {S : Nat → Prop} {w w' : World} {q : Nat} {cs : List Value} (h : News w q cs) (f : Fr S w w') (hq : ¬ S q) : News w' q cs := fun j u hj => f.cell (h j u hj) (by rw [Addr.add_lit]; exact hq)
/-- two rows in different blocks -/
def Sep (v v' : Value) : Prop := ∀ g, v.ownBlock = some g → v'.ownBlock ≠ some g
theorem Sep.symm {v v' : Value} (h : Sep v v') : Sep v' v := fun g h1 h2 => h g h2 h1
theorem Sep.app {w : World} {B : Nat} {e : TypeId} {s n : Nat} {cs : List Value} {va vb : Value} {g m c : Nat} (h : Sep va vb) (ob : w.ownsRow B e s vb n cs) (hat : va.ownBlock = some g ∨ g = w.heap.size) : Sep (.slice (some ⟨g, 0, none⟩) m c) vb := by
  intro k hk hb
  simp only [Value.ownBlock, Option.some.injEq] at hk
  subst hk
  rcases hat with hat | hat
  · exact h _ hat hb
  · have := (ob.lt _ hb).2; omega
theorem own_low {q B : Nat} {e : TypeId} {size : Nat} {v : Value} {n : Nat} {cs : List Value} {w w' : World} (h : w.ownsRow B e size v n cs) (f : Fr (fun k => k = q) w w') (hq : q < B) : w'.ownsRow B e size v n cs := own_q h f hq
theorem own_not {B : Nat} {e : TypeId} {size : Nat} {v : Value} {n : Nat} {cs : List Value} {w : World} (h : w.ownsRow B e size v n cs) : ∀ q, v.ownBlock = some q → q = w.heap.size → False := fun q hq e => by have := (h.lt q hq).2; omega
theorem own_no {B q : Nat} {e : TypeId} {size : Nat} {v : Value} {n : Nat} {cs : List Value} {w : World} (h : w.ownsRow B e size v n cs) (hq : w.heap.size = q) : ∀ g, v.ownBlock = some g → ¬ g = q := fun g hg e => own_not h g hg (e.trans hq.symm)
set_option maxHeartbeats 1000000 in
set_option maxRecDepth 100000 in
theorem build_rec (ρ : Operand → Value) (w : World) (dst : Option Tmp) (ty : TypeId) (pos : String) (after : Array Edge) (a b c d f : Operand) (ks ds : ByteArray) (v o g : Int) (gn : Bool)
    (h0 : ρ a = .agg #[.string ks, .int .u64 v]) (h1 : ρ b = .int .i64 o) (h2 : ρ c = .int .i64 g) (h3 : ρ d = .bool gn) (h4 : ρ f = .string ds) :
    (execOp ρ ⟨dst, .build 123 #[(0, a), (1, b), (2, c), (3, d), (4, f)], ty, pos, after, none⟩).run Try.prog w = .ok (.value (.agg #[.string ks, .int .u64 v, .int .i64 o, .int .i64 g, .bool gn, .string ds])) w := by
  simp [go_sem, h0, h1, h2, h3, h4]
theorem wpList_rec {ops : Array Oper} {rest : List Oper} {dst : Option Tmp} {ty : TypeId} {pos : String} {after : Array Edge} {a b c d f : Operand} {A : Act} {w : World} {Q : Exit → Act → World → Prop} (ks : ByteArray) (v o g : Int) (gn : Bool) (ds : ByteArray)
    (h0 : A.eval a = .agg #[.string ks, .int .u64 v]) (h1 : A.eval b = .int .i64 o) (h2 : A.eval c = .int .i64 g) (h3 : A.eval d = .bool gn) (h4 : A.eval f = .string ds)
    (h : wpList Try.prog ops Q rest (A.put dst (.agg #[.string ks, .int .u64 v, .int .i64 o, .int .i64 g, .bool gn, .string ds])) w) :
    wpList Try.prog ops Q (⟨dst, .build 123 #[(0, a), (1, b), (2, c), (3, d), (4, f)], ty, pos, after, none⟩ :: rest) A w := by
  refine wpList_plain rfl fun K hK => ?_
  unfold Oper.wp
  rw [build_rec A.eval w dst ty pos after a b c d f ks ds v o g gn h0 h1 h2 h3 h4]
  exact hK _ _ h
theorem set_fr (w : World) (q i : Nat) (v : Value) : Fr (fun k => k = q) w (w.setCell ⟨q, i, none⟩ v) := (Fr.refl (fun k => k = q) w).setCell (p := ⟨q, i, none⟩) (.inl rfl) v

theorem snoc_of {α β : Type} (f : α → β) {l : List α} {d : List β} (h : d = (l.take d.length).map f) (hk : d.length < l.length) : d ++ [f l[d.length]] = (l.take (d ++ [f l[d.length]]).length).map f := by
  rw [List.length_append, List.length_singleton, List.take_succ_eq_append_getElem hk, List.map_append, ← h]; rfl
theorem done_of {α : Type} {d l : List α} {n k : Nat} (h : d = l.take d.length) (hn : n = min l.length k) (hle : d.length ≤ n) (hd : ¬ d.length < n) : d = l.take k := by
  have e : d.length = n := by omega
  exact h.trans (by rw [e, hn, List.take_eq_take_iff]; omega)
theorem done_map {α β : Type} (f : α → β) {d : List β} {l : List α} {n k : Nat} (h : d = (l.take d.length).map f) (hn : n = min l.length k) (hle : d.length ≤ n) (hd : ¬ d.length < n) : d = (l.take k).map f := by
  have e : d.length = n := by omega
  exact h.trans (by rw [e, hn]; congr 1; rw [List.take_eq_take_iff]; omega)
theorem cut_min (s : ByteArray) (h : s.size ≤ 9223372036854775807) : ∃ m : Nat, m ≤ s.size ∧ m ≤ 70 ∧ (if (70 : Int) < (s.size : Int) then (70 : Int) else (s.size : Int)) = (m : Int) ∧ min (s.size : Int) 70 = (m : Int) ∧ s.extract 0 m = cutS s :=
  ⟨min s.size 70, by omega, by omega, by split <;> omega, by omega, rfl⟩
theorem cutS_size (s : ByteArray) : (cutS s).size ≤ 70 := by unfold cutS; simp; omega
theorem rec_box {w : World} {q : Nat} {v0 v1 v2 v3 v4 v5 : Value} {e : TypeId} (h : w.heap[q]? = some (.cells #[v0, v1, v2, v3, v4, v5] e (0, 0))) (k d : Value) :
    (World.drew (World.setCell (World.setCell w ⟨q, 0, none⟩ k) ⟨q, 5, none⟩ d)).heap[q]? = some (.cells #[k, v1, v2, v3, v4, d] e (0, 0)) := by
  have h1 := heap_set1 (heap_set1 h 0 k) 5 d
  simp only [List.setIfInBounds_toArray, List.set_cons_zero, List.set_cons_succ] at h1
  exact h1
theorem rec_fr (w : World) (q : Nat) (k d : Value) : Fr (fun k => k = q) w (World.drew (World.setCell (World.setCell w ⟨q, 0, none⟩ k) ⟨q, 5, none⟩ d)) :=
  (((Fr.refl (fun k => k = q) w).setCell (p := ⟨q, 0, none⟩) (.inl rfl) k).setCell (p := ⟨q, 5, none⟩) (.inl rfl) d).drew
def BothPost (W : World) (m : Msg) (e : Ending) (w' : World) : Prop := Gr W w' ∧ ∃ p q, e = .returned (.tuple #[m.val p, m.val q]) ∧ MsgAt w' m p ∧ MsgAt w' m q
theorem set7_fr {S : Nat → Prop} {a w : World} (h : Fr S a w) {n : Nat} (hn : S n ∨ a.heap.size ≤ n) (v0 v1 v2 v3 v4 v5 v6 : Value) :
    Fr S a (((((((w.setCell ⟨n, 0, none⟩ v0).setCell ⟨n, 1, none⟩ v1).setCell ⟨n, 2, none⟩ v2).setCell ⟨n, 3, none⟩ v3).setCell ⟨n, 4, none⟩ v4).setCell ⟨n, 5, none⟩ v5).setCell ⟨n, 6, none⟩ v6) :=
  ((((((h.setCell (p := ⟨n, 0, none⟩) hn _).setCell (p := ⟨n, 1, none⟩) hn _).setCell (p := ⟨n, 2, none⟩) hn _).setCell (p := ⟨n, 3, none⟩) hn _).setCell (p := ⟨n, 4, none⟩) hn _).setCell (p := ⟨n, 5, none⟩) hn _).setCell (p := ⟨n, 6, none⟩) hn _
theorem both_fin {W w w' : World} {m : Msg} {e : Ending} {p q : MsgP} (hw : Gr W w') (f : Fr (fun k => k = W.heap.size + 1 ∨ k = W.heap.size + 2) w w') (he : e = .returned (.tuple #[m.val p, m.val q]))
    (oa : w.ownsRow (W.heap.size + 5) 3 1 (.slice p.a1 m.nodes.length p.c1) m.nodes.length (m.nodes.flatMap MInt.cells))
    (ia : w.ownsRow (W.heap.size + 5) 121 2 (.slice p.a2 m.ids.length p.c2) m.ids.length (m.ids.flatMap MId.cells))
    (ra : w.ownsRow (W.heap.size + 5) 123 6 (.slice p.a3 m.recs.length p.c3) m.recs.length (m.recs.flatMap MRec.cells))
    (ob : w.ownsRow (W.heap.size + 5) 3 1 (.slice q.a1 m.nodes.length q.c1) m.nodes.length (m.nodes.flatMap MInt.cells))
    (ib : w.ownsRow (W.heap.size + 5) 126 2 (.slice q.a2 m.ids.length q.c2) m.ids.length (m.ids.flatMap MId.cells))
    (rb : w.ownsRow (W.heap.size + 5) 127 6 (.slice q.a3 m.recs.length q.c3) m.recs.length (m.recs.flatMap MRec.cells)) : BothPost W m e w' := by
  have key : ∀ {t s v n cs}, w.ownsRow (W.heap.size + 5) t s v n cs → w'.ownsRow (W.heap.size + 5) t s v n cs := fun h => own_fr h f (fun g hg hk => by have := (h.lt g hg).1; omega)
  refine ⟨hw, p, q, he, ?_, ?_⟩
  · obtain ⟨x1, y1, e1, s1, -, -⟩ := SlA.of_own (key oa)
    obtain ⟨x2, y2, e2, s2, -, -⟩ := SlA.of_own (key ia)
    obtain ⟨x3, y3, e3, s3, -, -⟩ := SlA.of_own (key ra)
    cases e1; cases e2; cases e3
    exact ⟨s1, s2, s3⟩
  · obtain ⟨x1, y1, e1, s1, -, -⟩ := SlA.of_own (key ob)
    obtain ⟨x2, y2, e2, s2, -, -⟩ := SlA.of_own (key ib)
    obtain ⟨x3, y3, e3, s3, -, -⟩ := SlA.of_own (key rb)
    cases e1; cases e2; cases e3
    exact ⟨s1, s2, s3⟩
end Go.Proofs.Ytkclgemkeifbaaa
