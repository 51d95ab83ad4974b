/-
  Package stream: Feed.
-/
import Derived.Test.YtkclgemkeifbaaaStrNext
import Derived.Deep.AppendLies
import Derived.Deep.CutBlock
import Derived.Deep.CutRange
namespace Go.Proofs.Ytkclgemkeifbaaa
open Go.RowKit Go.Proofs

theorem Try.infoMsg : (Try.prog.info? 30).map (fun i => (i.zero, i.size, i.bytes)) = some (some msgZeroV, 7, 104) := by kernel_rfl

abbrev mpCells (x : Msg × MsgP) : List Value := x.1.cells x.2
/-- messages in a row that the call made -/
structure MsgsOwn (B : Nat) (w : World) (L : List (Msg × MsgP)) (v : Value) : Prop where
  row : w.ownsRow B 30 7 v L.length (L.flatMap mpCells)
  own : ∀ x ∈ L, MsgOwn B w x.1 x.2
theorem MsgsOwn.nil (B : Nat) (w : World) : MsgsOwn B w [] (.slice none 0 0) := ⟨World.ownsRow_nil _ _ _ _, fun _ h => by cases h⟩
theorem MsgsOwn.keep {B : Nat} {S : Nat → Prop} {w w' : World} {L : List (Msg × MsgP)} {v : Value} (h : MsgsOwn B w L v) (f : Fr S w w') (hS : ∀ k, S k → k < B) : MsgsOwn B w' L v :=
  ⟨own_fr h.row f (fun q hq hs => by have := (h.row.lt q hq).1; have := hS q hs; omega), fun x hx => (h.own x hx).keep f hS⟩
theorem MsgsOwn.base {B B' : Nat} {w : World} {L : List (Msg × MsgP)} {v : Value} (h : MsgsOwn B w L v) (hb : B' ≤ B) : MsgsOwn B' w L v := ⟨own_base h.row hb, fun x hx => (h.own x hx).base hb⟩
theorem MsgOwn.other {B B' : Nat} {w w' : World} {m : Msg} {p : MsgP} {v : Value} {n : Nat} {cs : List Value} (h : MsgOwn B w m p) (r : w.ownsRow B' 30 7 v n cs) (g : w.grownBy w' v.ownBlock) : MsgOwn B w' m p :=
  ⟨own_grown h.nodes g (own_sep h.nodes r (by decide)), own_grown h.ids g (own_sep h.ids r (by decide)), own_grown h.recs g (own_sep h.recs r (by decide))⟩

theorem own_box {B g : Nat} {w w' : World} {e e' : TypeId} {s : Nat} {v : Value} {n : Nat} {cs : List Value} {c : Array Value} {fz : Nat × Nat} (h : w.ownsRow B e s v n cs) (hb : w.heap[g]? = some (.cells c e' fz)) (f : Fr (fun k => k = g) w w') (he : e ≠ e') : w'.ownsRow B e s v n cs := by
  refine own_fr h f (fun q hq hk => ?_)
  have hk : q = g := hk
  subst hk
  rcases h.2 with ⟨rfl, _⟩ | ⟨x, cap, cur, rfl, _, hx, _⟩
  · cases hq
  · simp only [Value.ownBlock, Option.some.injEq] at hq
    subst hq
    rw [hb] at hx
    simp only [Option.some.injEq, Obj.cells.injEq] at hx
    exact he hx.2.1.symm
theorem MsgOwn.box {B g : Nat} {w w' : World} {m : Msg} {p : MsgP} {c : Array Value} {fz : Nat × Nat} (h : MsgOwn B w m p) (hb : w.heap[g]? = some (.cells c 30 fz)) (f : Fr (fun k => k = g) w w') : MsgOwn B w' m p :=
  ⟨own_box h.nodes hb f (by decide), own_box h.ids hb f (by decide), own_box h.recs hb f (by decide)⟩

def FeedPost (W : World) (q : Nat) (r : List Msg × List UInt8 × Int) (e : Ending) (w' : World) : Prop :=
  Fr (· = q) W w' ∧ SplAt w' q r.2.1 r.2.2 ∧ ∃ L v, L.map Prod.fst = r.1 ∧ e = .returned v ∧ MsgsOwn W.heap.size w' L v

/-- what next returns: a message, or the zero one -/
theorem next_ends {W w' : World} {q : Nat} {r : Option Msg × List UInt8 × Int} {e : Ending} (h : NextPost W q r e w') :
    ∃ (m : Msg) (p : MsgP) (ok : Bool), e = .returned (.tuple #[m.val p, .bool ok]) ∧ (r.1 = if ok then some m else none) ∧ (ok = true → MsgOwn W.heap.size w' m p) := by
  obtain ⟨_, _, h⟩ := h
  obtain ⟨o, u, c⟩ := r
  cases o with
  | none => exact ⟨Msg.zero, MsgP.zero, false, h, rfl, fun h => by cases h⟩
  | some m =>
    obtain ⟨p, h1, h2⟩ := h
    exact ⟨m, p, true, h1, rfl, fun _ => h2⟩
def okN (v : Value) : Nat := match v with | .bool true => 1 | _ => 0
/-- the loop of Feed, at a round's head -/
structure FdSt (W : World) (q : Nat) (tot : List Msg × List UInt8 × Int) (w : World) (L : List (Msg × MsgP)) (v : Value) (m : Msg) (p : MsgP) (ok : Bool) (u : List UInt8) (c : Int) (g : Nat) : Prop where
  out : MsgsOwn W.heap.size w L v
  fr : Fr (· = q) W w
  spl : SplAt w q u c
  lq : q < W.heap.size
  ge : W.heap.size ≤ g
  box : w.heap[g]? = some (.cells (m.arr p) 30 (0, 0))
  sep : ∀ k, v.ownBlock = some k → k ≠ g
  cur : ok = true → MsgOwn W.heap.size w m p ∧ c = 0
  tot : tot = if ok then (L.map Prod.fst ++ m :: (feed u).1, (feed u).2) else (L.map Prod.fst, u, c)
  small : u.length + L.length + okN (.bool ok) ≤ 1000001
theorem tot_of {l : List Msg} {s u : List UInt8} {c : Int} {m : Msg} {ok : Bool} (h : nextS s = (if ok then some m else none, u, c)) :
    (l ++ (feed s).1, (feed s).2) = (if ok then (l ++ m :: (feed u).1, (feed u).2) else (l, u, c)) ∧ (ok = true → c = 0 ∧ u.length + 2 ≤ s.length) ∧ u.length ≤ s.length := by
  cases ok with
  | false =>
    rw [feed_none h]
    refine ⟨by simp, (fun h => by cases h), ?_⟩
    rcases nextS_bad h with ⟨_, rfl⟩ | ⟨_, rfl⟩ <;> simp
  | true =>
    rw [feed_some h]
    have := nextS_some h
    exact ⟨rfl, fun _ => ⟨this.2, this.1⟩, by omega⟩
theorem heap_set7 {w : World} {n : Nat} {a0 a1 a2 a3 a4 a5 a6 : Value} {e : TypeId} {fz : Nat × Nat} (h : w.heap[n]? = some (.cells #[a0, a1, a2, a3, a4, a5, a6] e fz)) (v0 v1 v2 v3 v4 v5 v6 : Value) :
    (((((((w.setCell ⟨n, 0, none⟩ v0).setCell ⟨n, 1, none⟩ v1).setCell ⟨n, 2, none⟩ v2).setCell ⟨n, 3, none⟩ v3).setCell ⟨n, 4, none⟩ v4).setCell ⟨n, 5, none⟩ v5).setCell ⟨n, 6, none⟩ v6).heap[n]? = some (.cells #[v0, v1, v2, v3, v4, v5, v6] e fz) := by
  have := heap_set1 (heap_set1 (heap_set1 (heap_set1 (heap_set1 (heap_set1 (heap_set1 h 0 v0) 1 v1) 2 v2) 3 v3) 4 v4) 5 v5) 6 v6
  simpa using this
def splLen (w : World) (q : Nat) : Nat := match w.cell? ⟨q, 0, none⟩ with | some (.string s) => s.size | _ => 0
theorem SplAt.len {w : World} {q : Nat} {s : List UInt8} {c : Int} (h : SplAt w q s c) : splLen w q = s.length := by unfold splLen; rw [h.s]; exact mk_size s

set_option maxHeartbeats 4000000 in
set_option maxRecDepth 100000 in
theorem feed_any {W : World} {q : Nat} {s t : List UInt8} (h : SplAt W q s 0) (hl : s.length + t.length ≤ 1000000) :
    Calls Try.prog 24 #[.pointer (some ⟨q, 0, none⟩), .string ⟨t.toArray⟩] W (FeedPost W q (feed (s ++ t))) := by
  obtain ⟨i1, hi1, hi2, hi3, hi4⟩ := info_parts Try.infoMsg
  have H := Lib.hid h
  have y0 := h.s
  have y1 := h.c
  have z0 := h.z 0
  have hq := h.lt
  have hs1 := mk_size s
  have hs2 := mk_size t
  clear h
  go_enter Try.func24, Try.ntmps24
  have happ : (⟨s.toArray⟩ : ByteArray) ++ ⟨t.toArray⟩ = ⟨(s ++ t).toArray⟩ := by
    apply ByteArray.ext; simp
  have S1 := Lib.hid (H.out.set (s ++ t))
  have hlen : (s ++ t).length ≤ 1000000 := by rw [List.length_append]; omega
  go_wp2_with fail
  generalize s ++ t = u0 at *
  generalize hw1 : W.setCell ⟨q, 0, none⟩ (.string ⟨u0.toArray⟩) = w1 at *
  have F1 : Hid (Fr (· = q) W w1) := Lib.hid (by rw [← hw1]; exact (Fr.refl (· = q) W).setCell (p := ⟨q, 0, none⟩) (.inl rfl) _)
  clear hw1 happ y0 y1 z0 hs1 hs2 hl H
  refine (next_any S1.out (by omega)).mono ?_
  rintro e w2 hp2
  obtain ⟨m, p, ok, rfl, hr, ho⟩ := next_ends hp2
  obtain ⟨f2, s2, -⟩ := hp2
  obtain ⟨u, c, hn⟩ : ∃ u c, nextS u0 = (if ok then some m else none, u, c) := ⟨_, _, by rw [← hr]⟩
  rw [hn] at s2
  obtain ⟨ht1, ht2, ht3⟩ := tot_of (l := []) hn
  have ST : Hid (FdSt W q (feed u0) (w2.alloc (.cells (m.arr p) 30)) [] (.slice none 0 0) m p ok u c w2.heap.size) := Lib.hid (by
    have f3 := (Fr.refl (fun _ => False) w2).alloc (.cells (m.arr p) 30)
    refine ⟨MsgsOwn.nil _ _, (Fr.trans F1.out f2 (fun k h => .inl h)).alloc _, s2.keep f3 (fun h => h), hq, ?_, ?_, (fun k h => by cases h), fun h => ⟨((ho h).keep f3 (fun _ h => h.elim)).base F1.out.size, (ht2 h).1⟩, by simpa using ht1, ?_⟩
    · exact Nat.le_trans F1.out.size f2.size
    · rw [heap_alloc_if, if_pos rfl]
    · cases ok <;> simp [okN] <;> omega)
  clear hr ho f2 s2 hn ht1 ht2 ht3 S1 F1 hlen
  go_wp2_with fail
  obtain ⟨w3, hw3⟩ : ∃ w3, w3 = w2.alloc (.cells #[.int .i64 m.kind, .int .i64 m.node, .int .i64 m.walk, .bool m.high, .slice p.a1 m.nodes.length p.c1, .slice p.a2 m.ids.length p.c2, .slice p.a3 m.recs.length p.c3] 30) := ⟨_, rfl⟩
  have ST3 : Hid (FdSt W q (feed u0) w3 [] (.slice none 0 0) m p ok u c w2.heap.size) := Lib.hid (by rw [hw3]; exact ST.out)
  rw [← hw3]
  clear hw3 ST
  generalize feed u0 = tot at *
  go_loopw [5, 6, 7] (fun v bx okv wr => ∃ (L : List (Msg × MsgP)) (m : Msg) (p : MsgP) (ok : Bool) (u : List UInt8) (c : Int) (g : Nat), bx = .pointer (some ⟨g, 0, none⟩) ∧ okv = .bool ok ∧ FdSt W q tot wr L v m p ok u c g) (fun _ _ okv wr => splLen wr q + okN okv)
  case atStart => exact ⟨[], m, p, ok, u, c, _, rfl, rfl, ST3.out⟩
  case round =>
    clear ST3
    obtain ⟨L, m, p, ok, u, c, g, rfl, rfl, hst⟩ := hrel
    have ST := Lib.hid hst
    clear hst
    cases ok with
    | false =>
      have htot := ST.out.tot
      simp only [Bool.false_eq_true, if_false] at htot
      have HT := Lib.hid htot
      clear htot
      go_wp2_with fail
      go_ret
      exact ⟨ST.out.fr, by rw [HT.out]; exact ST.out.spl, L, _, by rw [HT.out], rfl, ST.out.out⟩
    | true =>
      have y0 : wr.cell? ⟨g, 0, none⟩ = some (.int .i64 m.kind) := by rw [Lib.cell_of_heap ST.out.box]; rfl
      have y1 : wr.cell? ⟨g, 1, none⟩ = some (.int .i64 m.node) := by rw [Lib.cell_of_heap ST.out.box]; rfl
      have y2 : wr.cell? ⟨g, 2, none⟩ = some (.int .i64 m.walk) := by rw [Lib.cell_of_heap ST.out.box]; rfl
      have y3 : wr.cell? ⟨g, 3, none⟩ = some (.bool m.high) := by rw [Lib.cell_of_heap ST.out.box]; rfl
      have y4 : wr.cell? ⟨g, 4, none⟩ = some (.slice p.a1 m.nodes.length p.c1) := by rw [Lib.cell_of_heap ST.out.box]; rfl
      have y5 : wr.cell? ⟨g, 5, none⟩ = some (.slice p.a2 m.ids.length p.c2) := by rw [Lib.cell_of_heap ST.out.box]; rfl
      have y6 : wr.cell? ⟨g, 6, none⟩ = some (.slice p.a3 m.recs.length p.c3) := by rw [Lib.cell_of_heap ST.out.box]; rfl
      obtain ⟨w4, hw4⟩ : ∃ w4, w4 = wr.alloc (.cells #[.int .i64 m.kind, .int .i64 m.node, .int .i64 m.walk, .bool m.high, .slice p.a1 m.nodes.length p.c1, .slice p.a2 m.ids.length p.c2, .slice p.a3 m.recs.length p.c3] 30) := ⟨_, rfl⟩
      have f4 : Gr wr w4 := by rw [hw4]; exact (Fr.refl _ _).alloc _
      have n4 : ∀ (j : Nat) (x : Value), (m.cells p)[j]? = some x → w4.cell? ((⟨wr.heap.size, 0, none⟩ : Addr).add j) = some x := by rw [hw4]; exact news_cells wr (m.arr p) 30
      have O4 := Lib.hid (ST.out.out.keep f4 (fun _ h => h.elim))
      have sz4 : wr.heap.size + 1 = w4.heap.size := by rw [hw4]; simp
      have HW4 := Lib.hid hw4
      have N4 := Lib.hid n4
      have SM : Hid (u.length + L.length + 1 ≤ 1000001) := Lib.hid ST.out.small
      have GE := Lib.hid (Nat.le_trans ST.out.fr.size f4.size)
      clear hw4 n4
      go_wp2_with (at_builtin; rw [← HW4.out]; refine wpList_append_lies _ rfl _ _ 55 rfl W.heap.size 30 i1 msgZeroV 7 104 Try.underlying55 hi1 hi2 hi3 hi4 rfl (by decide) _ _ _ rfl O4.out.row ⟨wr.heap.size, 0, none⟩ 1 1 (m.cells p) rfl rfl N4.out (by intro u hu; simp at hu; rcases hu with rfl | rfl | rfl | rfl | rfl | rfl | rfl <;> rfl) (by decide) (by have := SM.out; unfold maxLen; omega) (by have := SM.out; omega) GE.out _ rfl ?_)
      intro g5 c5 w5 ho hg hat hlt
      have f5 : Fr (fun k => u5.ownBlock = some k) w4 w5 := (Fr.refl _ _).grown hg (fun q hq => .inl hq)
      have row := O4.out.row
      have hgl : g < wr.heap.size := (Array.getElem?_eq_some_iff.1 ST.out.box).1
      have S5 := Lib.hid ((ST.out.spl.keep f4 (fun h => h)).keep f5 (fun h => by have := (row.lt q h).1; omega))
      have B5 : Hid (w5.heap[g]? = some (.cells (m.arr p) 30 (0, 0))) := Lib.hid (by
        rw [f5.block g (by have := f4.size; omega) (fun h => ST.out.sep g h rfl), f4.block g hgl (fun h => h)]; exact ST.out.box)
      have M5 : Hid (MsgsOwn W.heap.size w5 (L ++ [(m, p)]) (.slice (some ⟨g5, 0, none⟩) (L.length + 1) c5)) := Lib.hid (by
        refine ⟨by simpa using ho, fun x hx => ?_⟩
        rcases List.mem_append.1 hx with hx | hx
        · exact (O4.out.own x hx).other row hg
        · simp only [List.mem_singleton] at hx
          subst hx
          exact ((ST.out.cur rfl).1.keep f4 (fun _ h => h.elim)).other row hg)
      have F5 : Hid (Fr (· = q) W w5) := Lib.hid (Fr.trans (Fr.trans ST.out.fr f4 (fun _ h => h.elim)) f5 (fun k h => .inr (row.lt k h).1))
      have hc : c = 0 := (ST.out.cur rfl).2
      have htot := ST.out.tot
      simp only [if_true] at htot
      have HT := Lib.hid htot
      have HL0 := Lib.hid ST.out.spl.len
      have hsm : u.length + L.length + 1 ≤ 1000001 := ST.out.small
      subst hc
      clear ho hg hat f5 row hgl htot N4 O4 HW4 GE f4 ST y0 y1 y2 y3 y4 y5 y6 sz4
      have y0 : w5.cell? ⟨g, 0, none⟩ = some (.int .i64 m.kind) := by rw [Lib.cell_of_heap B5.out]; rfl
      have y1 : w5.cell? ⟨g, 1, none⟩ = some (.int .i64 m.node) := by rw [Lib.cell_of_heap B5.out]; rfl
      have y2 : w5.cell? ⟨g, 2, none⟩ = some (.int .i64 m.walk) := by rw [Lib.cell_of_heap B5.out]; rfl
      have y3 : w5.cell? ⟨g, 3, none⟩ = some (.bool m.high) := by rw [Lib.cell_of_heap B5.out]; rfl
      have y4 : w5.cell? ⟨g, 4, none⟩ = some (.slice p.a1 m.nodes.length p.c1) := by rw [Lib.cell_of_heap B5.out]; rfl
      have y5 : w5.cell? ⟨g, 5, none⟩ = some (.slice p.a2 m.ids.length p.c2) := by rw [Lib.cell_of_heap B5.out]; rfl
      have y6 : w5.cell? ⟨g, 6, none⟩ = some (.slice p.a3 m.recs.length p.c3) := by rw [Lib.cell_of_heap B5.out]; rfl
      obtain ⟨w6, hw6⟩ : ∃ w6, w6 = w5.alloc (.cells #[.int .i64 m.kind, .int .i64 m.node, .int .i64 m.walk, .bool m.high, .slice p.a1 m.nodes.length p.c1, .slice p.a2 m.ids.length p.c2, .slice p.a3 m.recs.length p.c3] 30) := ⟨_, rfl⟩
      have f6 : Gr w5 w6 := by rw [hw6]; exact (Fr.refl _ _).alloc _
      have B6 : Hid (w6.heap[w5.heap.size]? = some (.cells (m.arr p) 30 (0, 0))) := Lib.hid (by rw [hw6, heap_alloc_if, if_pos rfl])
      have S6 := Lib.hid (S5.out.keep f6 (fun h => h))
      have M6 := Lib.hid (M5.out.keep f6 (fun _ h => h.elim))
      have F6 := Lib.hid (Fr.trans F5.out f6 (fun _ h => h.elim))
      have L6 : Hid (∀ k, (Value.slice (some ⟨g5, 0, none⟩) (L.length + 1) c5).ownBlock = some k → k ≠ w5.heap.size) := Lib.hid (fun k hk => by have := (M5.out.row.lt k hk).2; omega)
      have HW6 := Lib.hid hw6
      have hq6 := F5.out.size
      have hs6 : w6.heap.size = w5.heap.size + 1 := by rw [hw6]; simp
      clear hw6 f6 S5 M5 F5 B5
      go_wp2_with fail
      rw [← HW6.out]
      clear HW6 y0 y1 y2 y3 y4 y5 y6
      refine (next_any S6.out (by omega)).mono ?_
      rintro e w7 hp2
      obtain ⟨m', p', ok', rfl, hr, ho'⟩ := next_ends hp2
      obtain ⟨f7, s7, -⟩ := hp2
      obtain ⟨u', c', hn⟩ : ∃ u' c', nextS u = (if ok' then some m' else none, u', c') := ⟨_, _, by rw [← hr]⟩
      rw [hn] at s7
      obtain ⟨ht1, ht2, ht3⟩ := tot_of (l := (L ++ [(m, p)]).map Prod.fst) hn
      have tb : w7.heap[w5.heap.size]? = some (.cells (m.arr p) 30 (0, 0)) := by rw [f7.block _ (by omega) (by omega)]; exact B6.out
      have F7 : Hid (Fr (· = q) W w7) := Lib.hid (Fr.trans F6.out f7 (fun k h => .inl h))
      have M7 := Lib.hid (M6.out.keep f7 (fun k h => by omega))
      have S7 := Lib.hid s7
      have HO : Hid (ok' = true → MsgOwn W.heap.size w7 m' p') := Lib.hid (fun h => (ho' h).base (by omega))
      have T1 := Lib.hid ht1
      have T2 := Lib.hid ht2
      have t0 : w7.cell? ⟨w5.heap.size, 0, none⟩ = some (.int .i64 m.kind) := by rw [Lib.cell_of_heap tb]; rfl
      have t1 : w7.cell? ⟨w5.heap.size, 1, none⟩ = some (.int .i64 m.node) := by rw [Lib.cell_of_heap tb]; rfl
      have t2 : w7.cell? ⟨w5.heap.size, 2, none⟩ = some (.int .i64 m.walk) := by rw [Lib.cell_of_heap tb]; rfl
      have t3 : w7.cell? ⟨w5.heap.size, 3, none⟩ = some (.bool m.high) := by rw [Lib.cell_of_heap tb]; rfl
      have t4 : w7.cell? ⟨w5.heap.size, 4, none⟩ = some (.slice p.a1 m.nodes.length p.c1) := by rw [Lib.cell_of_heap tb]; rfl
      have t5 : w7.cell? ⟨w5.heap.size, 5, none⟩ = some (.slice p.a2 m.ids.length p.c2) := by rw [Lib.cell_of_heap tb]; rfl
      have t6 : w7.cell? ⟨w5.heap.size, 6, none⟩ = some (.slice p.a3 m.recs.length p.c3) := by rw [Lib.cell_of_heap tb]; rfl
      have z : ∀ j, w7.frozen? ⟨w5.heap.size, j, none⟩ = false := Lib.frozen_of_heap tb
      have TB := Lib.hid tb
      have hsz7 := f7.size
      clear tb f7 s7 hr ho' hn ht1 ht2 S6 M6 F6 B6
      go_wp2_with fail
      have fst : Fr (fun k => k = w5.heap.size) w7 _ := fr_stores7 (Fr.refl (fun k => k = w5.heap.size) w7) rfl (.int .i64 m'.kind) (.int .i64 m'.node) (.int .i64 m'.walk) (.bool m'.high) (.slice p'.a1 m'.nodes.length p'.c1) (.slice p'.a2 m'.ids.length p'.c2) (.slice p'.a3 m'.recs.length p'.c3)
      have bst := heap_set7 TB.out (.int .i64 m'.kind) (.int .i64 m'.node) (.int .i64 m'.walk) (.bool m'.high) (.slice p'.a1 m'.nodes.length p'.c1) (.slice p'.a2 m'.ids.length p'.c2) (.slice p'.a3 m'.recs.length p'.c3)
      have s8 := S7.out.keep fst (by omega)
      refine ⟨⟨L ++ [(m, p)], m', p', ok', u', c', _, rfl, rfl, ?_⟩, ?_⟩
      · refine ⟨⟨own_fr M7.out.row fst (fun k hk h => L6.out k hk h), fun x hx => (M7.out.own x hx).box TB.out fst⟩, Fr.trans F7.out fst (fun k h => .inr (by omega)), s8, hq, hq6, bst, L6.out, fun h => ⟨(HO.out h).box TB.out fst, (T2.out h).1⟩, ?_, ?_⟩
        · rw [HT.out, ← T1.out]; simp
        · cases ok' with
          | true => have := (T2.out rfl).2; simp [okN]; omega
          | false => simp [okN]; omega
      · rw [HL0.out, s8.len]
        cases ok' with
        | true => have := (T2.out rfl).2; simp [okN]; omega
        | false => simp [okN]; omega
theorem feed_stopped {W : World} {q : Nat} {s : List UInt8} {c : Int} (h : SplAt W q s c) (hc : c ≠ 0) (t : ByteArray) :
    Calls Try.prog 24 #[.pointer (some ⟨q, 0, none⟩), .string t] W fun e w' => e = .returned (.slice none 0 0) ∧ W = w' := by
  have y1 := h.c
  have hc' : (c == 0) = false := by simpa using hc
  have hc2 : (c != 0) = true := by simpa using hc
  clear h
  go_enter Try.func24, Try.ntmps24
  go_wp2_with fail
  go_ret
  exact ⟨rfl, rfl⟩
theorem feed_nil (t : ByteArray) (W : World) : Calls Try.prog 24 #[.pointer none, .string t] W fun e w' => e = .returned (.slice none 0 0) ∧ W = w' := by
  go_enter Try.func24, Try.ntmps24
  go_wp2_with fail
  go_ret
  exact ⟨rfl, rfl⟩
end Go.Proofs.Ytkclgemkeifbaaa
