/-
  Package message: Decode.
-/
import Derived.Test.YtkclgemkeifbaaaMsgRead
namespace Go.Proofs.Ytkclgemkeifbaaa
open Go.RowKit Go.Proofs



/-- the value of the zero message -/
abbrev msgZeroV : Value := .agg #[.int .i64 0, .int .i64 0, .int .i64 0, .bool false, .slice none 0 0, .slice none 0 0, .slice none 0 0]
def DecPost (l : List UInt8) (W : World) (e : Ending) (w' : World) : Prop :=
  Gr W w' ∧ match Msg.dec l with
    | .ok m _ => ∃ p, e = .returned (.tuple #[m.val p, .int .i64 0]) ∧ MsgOwn W.heap.size w' m p
    | .ref c => e = .returned (.tuple #[msgZeroV, .int .i64 c])

/-- what is left of a read: the message's block and its rows -/
def RdG (l : List UInt8) (B q : Nat) (x : ROut) (w' : World) : Prop :=
  match pMsg l with
    | .ok m r => x = .ok ⟨r.toArray⟩ ∧ ∃ p, w'.heap[q]? = some (.cells (m.arr p) 30 (0, 0)) ∧ MsgOwn B w' m p
    | .ref c => x = .ref c

theorem packRead_msg (l : List UInt8) (q : Nat) (W : World) (hl : l.length ≤ 9223372036854775807) (hq : q < W.heap.size) (hb : W.heap[q]? = some (.cells (Msg.zero.arr MsgP.zero) 30 (0, 0))) :
    Calls Try.prog 53 #[.string ⟨l.toArray⟩, .func (.func 54) #[.pointer (some ⟨q, 0, none⟩)] #[]] W fun e w' => ∃ w0 x, RdG l (W.heap.size + 4) q x w0 ∧ e = x.ending ∧ Fr (fun k => k = W.heap.size + 3) w0 w' ∧ W.heap.size ≤ w0.heap.size ∧ Fr (fun k => W.heap.size ≤ k ∨ k = q) W w' := by
  refine packReadM_any ⟨l.toArray⟩ 54 (.pointer (some ⟨q, 0, none⟩)) W (fun k => k = q) (RdG l (W.heap.size + 4) q) (by rw [mk_size]; exact hl) (fun a w => enters_fn Try.func54 (by kernel_rfl) rfl _ w) (fun k h => h ▸ hq) (fun w hfw hsz hrd => ?_)
  refine (read_any (W.heap.size + 1) q l w ⟨by rw [hfw.block q hq (fun h => h)]; exact hb, hrd, Fr.refl _ _, by omega, by omega, by omega⟩).mono ?_
  rintro e w' ⟨f, h⟩
  refine ⟨f.mono (fun k _ hk => by rcases hk with hk | hk; left; unfold wS; omega; right; exact hk), ?_⟩
  unfold RdG
  cases hp : pMsg l with
  | ref c =>
    rw [hp] at h
    obtain ⟨hc, rfl⟩ := h
    exact ⟨_, .ref c hc, rfl⟩
  | ok m r =>
    rw [hp] at h
    obtain ⟨rfl, hr, p, h1, h2⟩ := h
    exact ⟨_, .ok _ hr, rfl, p, h1, h2.base hsz⟩

/-- seven stores into a block -/
theorem fr_stores7 {S : Nat → Prop} {a w : World} (h : Fr S a w) {n : Nat} (hn : S n) (v0 v1 v2 v3 v4 v5 v6 : Value) :
    Fr S a (((((((w.setCell ⟨n, 0, none⟩ v0).setCell ⟨n, 1, none⟩ v1).setCell ⟨n, 2, none⟩ v2).setCell ⟨n, 3, none⟩ v3).setCell ⟨n, 4, none⟩ v4).setCell ⟨n, 5, none⟩ v5).setCell ⟨n, 6, none⟩ v6) :=
  ((((((h.setCell (p := ⟨n, 0, none⟩) (.inl hn) _).setCell (p := ⟨n, 1, none⟩) (.inl hn) _).setCell (p := ⟨n, 2, none⟩) (.inl hn) _).setCell (p := ⟨n, 3, none⟩) (.inl hn) _).setCell (p := ⟨n, 4, none⟩) (.inl hn) _).setCell (p := ⟨n, 5, none⟩) (.inl hn) _).setCell (p := ⟨n, 6, none⟩) (.inl hn) _

set_option maxHeartbeats 4000000 in
set_option maxRecDepth 100000 in
theorem decode_any (l : List UInt8) (hl : l.length ≤ 9223372036854775807) (W : World) : Calls Try.prog 19 #[.string ⟨l.toArray⟩] W (DecPost l W) := by
  have hmf : ∀ (fn : Fn) (first cap : Array Value) (w : World), (Instr.makeFunc fn first cap).run Try.prog w = .ok (.func fn first cap) w := fun _ _ _ _ => rfl
  have hsz := mk_size l
  by_cases h4 : 4096 < l.length
  · have hd : Msg.dec l = .ref 3 := by unfold Msg.dec; rw [if_pos h4]
    have HD := Lib.hid hd
    clear hd
    go_enter Try.func19, Try.ntmps19
    go_wp2_with fail
    refine bodyPost_ret (v := .tuple #[msgZeroV, .int .i64 3]) (by simp [results, Try.results19, go_sem]) rfl ⟨?_, ?_⟩
    · exact (Fr.refl _ _).alloc _
    · rw [HD.out]
  · obtain ⟨w1, hw1⟩ : ∃ w1, w1 = (W.alloc (.cells (Msg.zero.arr MsgP.zero) 30)).alloc (.cells (Msg.zero.arr MsgP.zero) 30) := ⟨_, rfl⟩
    have hs1 : w1.heap.size = W.heap.size + 2 := by rw [hw1]; simp
    have hf1 : Gr W w1 := by rw [hw1]; exact ((Fr.refl _ _).alloc _).alloc _
    have hq : w1.heap[W.heap.size + 1]? = some (.cells (Msg.zero.arr MsgP.zero) 30 (0, 0)) := by rw [hw1, heap_alloc_if, if_pos (by simp)]
    have ht : w1.heap[W.heap.size]? = some (.cells (Msg.zero.arr MsgP.zero) 30 (0, 0)) := by rw [hw1, heap_alloc_if, if_neg (by simp), heap_alloc_if, if_pos rfl]
    have HC := Lib.hid (packRead_msg l (W.heap.size + 1) w1 hl (by omega) hq)
    have HF1 := Lib.hid hf1; clear hf1
    have HT := Lib.hid ht; clear ht
    have HW1 := Lib.hid hw1; clear hw1
    clear hq
    go_enter Try.func19, Try.ntmps19
    go_wp2_with fail
    have hw1' : w1 = (W.alloc (.cells #[.int .i64 0, .int .i64 0, .int .i64 0, .bool false, .slice none 0 0, .slice none 0 0, .slice none 0 0] 30)).alloc (.cells #[.int .i64 0, .int .i64 0, .int .i64 0, .bool false, .slice none 0 0, .slice none 0 0, .slice none 0 0] 30) := HW1.out
    rw [← hw1']
    clear hw1'
    refine HC.out.mono ?_
    rintro e w3 ⟨w0, x, hg, rfl, hf3, hs3, hf4⟩
    have ht3 : w3.heap[W.heap.size]? = some (.cells (Msg.zero.arr MsgP.zero) 30 (0, 0)) := by
      rw [hf4.block _ (by omega) (by omega)]; exact HT.out
    have FR := Lib.hid ((HF1.out.mono (T := fun k => W.heap.size ≤ k) (fun k _ h => h.elim)).trans hf4 (by intro k hk; left; omega))
    have t0 : w3.cell? ⟨W.heap.size, 0, none⟩ = some (.int .i64 0) := by rw [Lib.cell_of_heap ht3]; rfl
    have t1 : w3.cell? ⟨W.heap.size, 1, none⟩ = some (.int .i64 0) := by rw [Lib.cell_of_heap ht3]; rfl
    have t2 : w3.cell? ⟨W.heap.size, 2, none⟩ = some (.int .i64 0) := by rw [Lib.cell_of_heap ht3]; rfl
    have t3 : w3.cell? ⟨W.heap.size, 3, none⟩ = some (.bool false) := by rw [Lib.cell_of_heap ht3]; rfl
    have t4 : w3.cell? ⟨W.heap.size, 4, none⟩ = some (.slice none 0 0) := by rw [Lib.cell_of_heap ht3]; rfl
    have t5 : w3.cell? ⟨W.heap.size, 5, none⟩ = some (.slice none 0 0) := by rw [Lib.cell_of_heap ht3]; rfl
    have t6 : w3.cell? ⟨W.heap.size, 6, none⟩ = some (.slice none 0 0) := by rw [Lib.cell_of_heap ht3]; rfl
    have z : ∀ j, w3.frozen? ⟨W.heap.size, j, none⟩ = false := Lib.frozen_of_heap ht3
    unfold RdG at hg
    cases hp : pMsg l with
    | ref c =>
      rw [hp] at hg
      subst hg
      have hd : Msg.dec l = .ref c := by unfold Msg.dec; rw [if_neg h4, hp]
      have HD := Lib.hid hd
      have hc : c ≠ 0 := by rcases tight_msg.2.2.2 _ _ hp with h | h <;> omega
      clear hd hp ht3 hf3 hf4
      show (match ROut.ending (ROut.ref c), w3 with | _, _ => _)
      unfold ROut.ending
      go_wp2_with fail
      refine bodyPost_ret (v := .tuple #[msgZeroV, .int .i64 c]) (by simp [results, Try.results19, go_sem, t0, t1, t2, t3, t4, t5, t6]) rfl ⟨?_, ?_⟩
      · exact Fr.mono (S := fun k => W.heap.size ≤ k) (fr_stores7 FR.out (Nat.le_refl _) _ _ _ _ _ _ _) (fun k hk h => by omega)
      · rw [HD.out]
    | ok m r =>
      rw [hp] at hg
      obtain ⟨rfl, p, hb, ho⟩ := hg
      by_cases hr : r = []
      · have hb3 : w3.heap[W.heap.size + 1]? = some (.cells (m.arr p) 30 (0, 0)) := by
          rw [hf3.block _ (by omega) (by omega)]; exact hb
        have HO := Lib.hid ((ho.keep hf3 (fun k h => by omega)).base (B' := W.heap.size + 1) (by omega))
        have HM := Lib.hid (may_any m p)
        have y0 : w3.cell? ⟨W.heap.size + 1, 0, none⟩ = some (.int .i64 m.kind) := by rw [Lib.cell_of_heap hb3]; rfl
        have y1 : w3.cell? ⟨W.heap.size + 1, 1, none⟩ = some (.int .i64 m.node) := by rw [Lib.cell_of_heap hb3]; rfl
        have y2 : w3.cell? ⟨W.heap.size + 1, 2, none⟩ = some (.int .i64 m.walk) := by rw [Lib.cell_of_heap hb3]; rfl
        have y3 : w3.cell? ⟨W.heap.size + 1, 3, none⟩ = some (.bool m.high) := by rw [Lib.cell_of_heap hb3]; rfl
        have y4 : w3.cell? ⟨W.heap.size + 1, 4, none⟩ = some (.slice p.a1 m.nodes.length p.c1) := by rw [Lib.cell_of_heap hb3]; rfl
        have y5 : w3.cell? ⟨W.heap.size + 1, 5, none⟩ = some (.slice p.a2 m.ids.length p.c2) := by rw [Lib.cell_of_heap hb3]; rfl
        have y6 : w3.cell? ⟨W.heap.size + 1, 6, none⟩ = some (.slice p.a3 m.recs.length p.c3) := by rw [Lib.cell_of_heap hb3]; rfl
        have hx : ROut.ending (ROut.ok ⟨r.toArray⟩) = .returned (.int .i64 0) := by subst hr; rfl
        have hd : Msg.dec l = if m.may = true then .ok m [] else .ref 4 := by unfold Msg.dec; rw [if_neg h4, hp]; simp only; rw [if_pos hr]
        have hlt : W.heap.size + 1 < w3.heap.size := by
          have := hf4.size; omega
        have TB := Lib.hid ht3
        have QB := Lib.hid hb3
        clear hp ht3 hf3 hf4 hb ho hb3
        rw [hx]
        clear hx hr
        cases hmay : m.may
        · rw [hmay] at HM hd
          have HD := Lib.hid hd
          clear hd hmay
          go_wp2_with fail
          refine (HM.out _ HO.out.at).mono ?_
          rintro e w4 ⟨rfl, f4⟩
          have tb := TB.out
          rw [← f4.block _ (by omega) (fun h => h)] at tb
          have FR4 := Lib.hid (FR.out.trans f4 (fun _ h => h.elim))
          clear f4 t0 t1 t2 t3 t4 t5 t6 z y0 y1 y2 y3 y4 y5 y6
          have t0 : w4.cell? ⟨W.heap.size, 0, none⟩ = some (.int .i64 0) := by rw [Lib.cell_of_heap tb]; rfl
          have t1 : w4.cell? ⟨W.heap.size, 1, none⟩ = some (.int .i64 0) := by rw [Lib.cell_of_heap tb]; rfl
          have t2 : w4.cell? ⟨W.heap.size, 2, none⟩ = some (.int .i64 0) := by rw [Lib.cell_of_heap tb]; rfl
          have t3 : w4.cell? ⟨W.heap.size, 3, none⟩ = some (.bool false) := by rw [Lib.cell_of_heap tb]; rfl
          have t4 : w4.cell? ⟨W.heap.size, 4, none⟩ = some (.slice none 0 0) := by rw [Lib.cell_of_heap tb]; rfl
          have t5 : w4.cell? ⟨W.heap.size, 5, none⟩ = some (.slice none 0 0) := by rw [Lib.cell_of_heap tb]; rfl
          have t6 : w4.cell? ⟨W.heap.size, 6, none⟩ = some (.slice none 0 0) := by rw [Lib.cell_of_heap tb]; rfl
          have z : ∀ j, w4.frozen? ⟨W.heap.size, j, none⟩ = false := Lib.frozen_of_heap tb
          clear tb
          go_wp2_with fail
          refine bodyPost_ret (v := .tuple #[msgZeroV, .int .i64 4]) (by simp [results, Try.results19, go_sem, t0, t1, t2, t3, t4, t5, t6]) rfl ⟨?_, ?_⟩
          · exact Fr.mono (S := fun k => W.heap.size ≤ k) (fr_stores7 FR4.out (Nat.le_refl _) _ _ _ _ _ _ _) (fun k hk h => by omega)
          · rw [HD.out]; rfl
        · rw [hmay] at HM hd
          have HD := Lib.hid hd
          clear hd hmay
          go_wp2_with fail
          refine (HM.out _ HO.out.at).mono ?_
          rintro e w4 ⟨rfl, f4⟩
          have tb := TB.out
          rw [← f4.block _ (by omega) (fun h => h)] at tb
          have qb := QB.out
          rw [← f4.block _ (by omega) (fun h => h)] at qb
          have FR4 := Lib.hid (FR.out.trans f4 (fun _ h => h.elim))
          have HO4 := Lib.hid (HO.out.keep f4 (fun _ h => h.elim))
          clear f4 t0 t1 t2 t3 t4 t5 t6 z y0 y1 y2 y3 y4 y5 y6
          have t0 : w4.cell? ⟨W.heap.size, 0, none⟩ = some (.int .i64 0) := by rw [Lib.cell_of_heap tb]; rfl
          have t1 : w4.cell? ⟨W.heap.size, 1, none⟩ = some (.int .i64 0) := by rw [Lib.cell_of_heap tb]; rfl
          have t2 : w4.cell? ⟨W.heap.size, 2, none⟩ = some (.int .i64 0) := by rw [Lib.cell_of_heap tb]; rfl
          have t3 : w4.cell? ⟨W.heap.size, 3, none⟩ = some (.bool false) := by rw [Lib.cell_of_heap tb]; rfl
          have t4 : w4.cell? ⟨W.heap.size, 4, none⟩ = some (.slice none 0 0) := by rw [Lib.cell_of_heap tb]; rfl
          have t5 : w4.cell? ⟨W.heap.size, 5, none⟩ = some (.slice none 0 0) := by rw [Lib.cell_of_heap tb]; rfl
          have t6 : w4.cell? ⟨W.heap.size, 6, none⟩ = some (.slice none 0 0) := by rw [Lib.cell_of_heap tb]; rfl
          have z : ∀ j, w4.frozen? ⟨W.heap.size, j, none⟩ = false := Lib.frozen_of_heap tb
          have y0 : w4.cell? ⟨W.heap.size + 1, 0, none⟩ = some (.int .i64 m.kind) := by rw [Lib.cell_of_heap qb]; rfl
          have y1 : w4.cell? ⟨W.heap.size + 1, 1, none⟩ = some (.int .i64 m.node) := by rw [Lib.cell_of_heap qb]; rfl
          have y2 : w4.cell? ⟨W.heap.size + 1, 2, none⟩ = some (.int .i64 m.walk) := by rw [Lib.cell_of_heap qb]; rfl
          have y3 : w4.cell? ⟨W.heap.size + 1, 3, none⟩ = some (.bool m.high) := by rw [Lib.cell_of_heap qb]; rfl
          have y4 : w4.cell? ⟨W.heap.size + 1, 4, none⟩ = some (.slice p.a1 m.nodes.length p.c1) := by rw [Lib.cell_of_heap qb]; rfl
          have y5 : w4.cell? ⟨W.heap.size + 1, 5, none⟩ = some (.slice p.a2 m.ids.length p.c2) := by rw [Lib.cell_of_heap qb]; rfl
          have y6 : w4.cell? ⟨W.heap.size + 1, 6, none⟩ = some (.slice p.a3 m.recs.length p.c3) := by rw [Lib.cell_of_heap qb]; rfl
          clear tb qb
          go_wp2_with fail
          refine bodyPost_ret (v := .tuple #[m.val p, .int .i64 0]) (by simp [results, Try.results19, go_sem, t0, t1, t2, t3, t4, t5, t6, Msg.val]) rfl ⟨?_, ?_⟩
          · exact Fr.mono (S := fun k => W.heap.size ≤ k) (fr_stores7 FR4.out (Nat.le_refl _) _ _ _ _ _ _ _) (fun k hk h => by omega)
          · rw [HD.out]
            exact ⟨p, rfl, (HO4.out.keep (S := fun k => k = W.heap.size) (fr_stores7 (Fr.refl (fun k => k = W.heap.size) _) rfl _ _ _ _ _ _ _) (fun k h => by omega)).base (by omega)⟩
      · have hx : ROut.ending (ROut.ok ⟨r.toArray⟩) = .returned (.int .i64 3) := by
          unfold ROut.ending
          have : (ByteArray.mk r.toArray).size ≠ 0 := by
            rw [mk_size]; intro h; exact hr (List.eq_nil_of_length_eq_zero h)
          simp [this]
        have hd : Msg.dec l = .ref 3 := by unfold Msg.dec; rw [if_neg h4, hp]; simp only; rw [if_neg hr]
        have HD := Lib.hid hd
        clear hd hp ht3 hf3 hf4 hb ho
        rw [hx]
        clear hx hr
        go_wp2_with fail
        refine bodyPost_ret (v := .tuple #[msgZeroV, .int .i64 3]) (by simp [results, Try.results19, go_sem, t0, t1, t2, t3, t4, t5, t6]) rfl ⟨?_, ?_⟩
        · exact Fr.mono (S := fun k => W.heap.size ≤ k) (fr_stores7 FR.out (Nat.le_refl _) _ _ _ _ _ _ _) (fun k hk h => by omega)
        · rw [HD.out]
end Go.Proofs.Ytkclgemkeifbaaa
