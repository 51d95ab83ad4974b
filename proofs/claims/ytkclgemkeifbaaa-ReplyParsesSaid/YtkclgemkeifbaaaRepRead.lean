/-
  Package reply: the call that reads what stands behind a reply's head (printed by gen_repread.py).
-/
import Derived.Test.YtkclgemkeifbaaaBlk
import Derived.Test.YtkclgemkeifbaaaRepRec
import Derived.Test.YtkclgemkeifbaaaCodeAt
import Derived.Deep.AppendLies
namespace Go.Proofs.Ytkclgemkeifbaaa
section
open Go.RowKit Go.Proofs

theorem row_news (w : World) (cs : Array Value) (e : TypeId) : ∀ (j : Nat) (u : Value), cs.toList[j]? = some u → (w.alloc (.cells cs e)).cell? ((⟨w.heap.size, 0, none⟩ : Addr).add j) = some u := by
  intro j u hj
  rw [Addr.add_lit, Nat.zero_add, World.cell?_alloc_at _ _ _ _ rfl]
  simpa using hj
theorem row_sep {w : World} {B B' : Nat} {e e' : TypeId} {s s' : Nat} {v v' : Value} {n n' : Nat} {cs cs' : List Value} (h : w.ownsRow B e s v n cs) (h' : w.ownsRow B' e' s' v' n' cs') (he : e ≠ e') : ∀ g, v.ownBlock = some g → v'.ownBlock ≠ some g := by
  intro g hg hg'
  rcases h.2 with ⟨rfl, _⟩ | ⟨x, cap, cur, rfl, _, hb, _⟩
  · cases hg
  · rcases h'.2 with ⟨rfl, _⟩ | ⟨y, cap', cur', rfl, _, hb', _⟩
    · cases hg'
    · simp only [Value.ownBlock, Option.some.injEq] at hg hg'
      subst hg
      subst hg'
      rw [hb] at hb'
      simp only [Option.some.injEq, Obj.cells.injEq] at hb'
      exact he hb'.2.1
theorem row_grown {w w' : World} {B : Nat} {e : TypeId} {s : Nat} {v : Value} {n : Nat} {cs : List Value} {row : Option Nat} (h : w.ownsRow B e s v n cs) (g : w.grownBy w' row) (hs : ∀ k, v.ownBlock = some k → row ≠ some k) : w'.ownsRow B e s v n cs :=
  own_fr h ((Fr.refl (fun k => row = some k) w).grown g (fun _ h => .inl h)) (fun k hk e => hs k hk e)
end
section
open Go.RowKit Go.Proofs

/-- records in a row that the call made -/
structure RowsOwn (B : Nat) (w : World) (L : List RowR) (v : Value) : Prop where
  row : w.ownsRow B 110 10 v L.length (L.flatMap RowR.cells)
  tgt : ∀ x ∈ L, w.ownsRow B 9 1 (.slice x.2.1 x.1.target.length x.2.2) x.1.target.length (strVs x.1.target)
theorem RowsOwn.nil (B : Nat) (w : World) : RowsOwn B w [] (.slice none 0 0) := ⟨World.ownsRow_nil _ _ _ _, fun _ h => by cases h⟩
theorem RowsOwn.keep {B : Nat} {S : Nat → Prop} {w w' : World} {L : List RowR} {v : Value} (h : RowsOwn B w L v) (f : Fr S w w') (hS : ∀ k, S k → k < B) : RowsOwn B w' L v :=
  ⟨own_fr h.row f (fun q hq hs => by have := (h.row.lt q hq).1; have := hS q hs; omega), fun x hx => own_fr (h.tgt x hx) f (fun q hq hs => by have := ((h.tgt x hx).lt q hq).1; have := hS q hs; omega)⟩
theorem RowsOwn.base {B B' : Nat} {w : World} {L : List RowR} {v : Value} (h : RowsOwn B w L v) (hb : B' ≤ B) : RowsOwn B' w L v := ⟨own_base h.row hb, fun x hx => own_base (h.tgt x hx) hb⟩
theorem rdRecs_succ (d : Nat) (r : List UInt8) : rdRecs (d + 1) r = match rdRec r with
    | .err c => ([], .err c)
    | .ok x rest => (x :: (rdRecs d rest).1, (rdRecs d rest).2) := rfl
theorem RowsOwn.slice {B : Nat} {w : World} {L : List RowR} {v : Value} (h : RowsOwn B w L v) : ∃ a cap, v = .slice a L.length cap := by
  obtain ⟨a, cap, e, _⟩ := SlA.of_own h.row
  exact ⟨a, cap, e⟩
theorem rr_one (r : RRec) (a : Option Addr) (c : Nat) : ∀ u ∈ r.cells a c, u.oneCell' = true := by
  intro u hu
  simp only [RRec.cells, List.mem_cons, List.not_mem_nil, or_false] at hu
  rcases hu with rfl | rfl | rfl | rfl | rfl | rfl | rfl | rfl | rfl | rfl <;> rfl
def bodyO (asked : Bool) (u : List UInt8) (n : Nat) : Int × Int × List RRec × RAll :=
  if asked = true then
    if u.length < 2 then (0, 0, [], .err 2) else
    if u.length < 4 then (numAt u 0, 0, [], .err 2) else
    (numAt u 0, numAt u 2, (rdRecs n (u.drop 4)).1, (rdRecs n (u.drop 4)).2)
  else (0, 0, (rdRecs n u).1, (rdRecs n u).2)
theorem rdBody_eq (asked : Bool) (nm : List Lbl) (u : List UInt8) (n : Nat) : rdBody asked nm u n = ⟨asked, nm, (bodyO asked u n).1, (bodyO asked u n).2.1, (bodyO asked u n).2.2.1, (bodyO asked u n).2.2.2.code⟩ := by
  unfold rdBody bodyO
  cases asked
  · simp
  · simp only [if_true]
    split
    · rfl
    · split
      · rfl
      · rfl
theorem rdRecs_rne : ∀ (k : Nat) (s : List UInt8) (c : Int), (rdRecs k s).2 = .err c → c ≠ 0
  | 0, _, _, h => by simp [rdRecs] at h
  | k + 1, s, c, h => by
    unfold rdRecs at h
    cases hr : rdRec s with
    | err d => rw [hr] at h; cases h; exact rdRec_ne hr
    | ok x rest => rw [hr] at h; exact rdRecs_rne k rest c h
theorem bodyO_ne {asked : Bool} {u : List UInt8} {n : Nat} {c : Int} (h : (bodyO asked u n).2.2.2 = .err c) : c ≠ 0 := by
  unfold bodyO at h
  split at h
  · split at h
    · cases h; decide
    · split at h
      · cases h; decide
      · exact rdRecs_rne _ _ _ h
  · exact rdRecs_rne _ _ _ h

def Read1End (b q go : Nat) (hq : Hd) (asked : Bool) (a : Option Addr) (nc cap : Nat) (o : Int × Int × List RRec × RAll) (w : World) (e : Ending) (w' : World) : Prop :=
  Fr (fun k => k = b ∨ k = q ∨ k = go) w w' ∧ w'.heap[q]? = some (.cells (qCells hq asked a nc cap o.1 o.2.1) 67 (0, 0)) ∧
  ∃ L v, L.map Prod.fst = o.2.2.1 ∧ RowsOwn w.heap.size w' L v ∧ w'.heap[go]? = some (.cells #[v] 94 (0, 0)) ∧
    match o.2.2.2 with
    | .err c => e = .panicked [{ v := refused c, recovered := false }]
    | .ok rest => e = .returned (.tuple #[]) ∧ RdL w' b rest

/-- where the reading stands -/
structure RdS (W : World) (b q gq gc go : Nat) (hq : Hd) (asked : Bool) (a : Option Addr) (nc cap : Nat) (t c : Int) (cs : Array Value) (wr : World) (L : List RowR) (v : Value) (r : List UInt8) : Prop where
  fr : Fr (fun k => k = b ∨ k = q ∨ k = go) W wr
  rd : RdL wr b r
  qb : wr.heap[q]? = some (.cells (qCells hq asked a nc cap t c) 67 (0, 0))
  gqc : wr.cell? ⟨gq, 0, none⟩ = some (.pointer (some ⟨q, 0, none⟩))
  gcc : Bx wr gc cs.toList
  out : RowsOwn W.heap.size wr L v
  gob : wr.heap[go]? = some (.cells #[v] 94 (0, 0))

theorem RdS.step {W : World} {b q gq gc go : Nat} {hq : Hd} {asked : Bool} {a : Option Addr} {nc cap : Nat} {t c : Int} {cs : Array Value} {wr w' : World} {L : List RowR} {v : Value} {r r' : List UInt8} (h : RdS W b q gq gc go hq asked a nc cap t c cs wr L v r)
    (f : Fr (fun k => k = b) wr w') (hr : RdL w' b r') (l1 : q < W.heap.size) (l2 : go < W.heap.size) (d1 : b ≠ q) (d2 : b ≠ gq) (d3 : b ≠ gc) (d4 : b ≠ go) (l0 : b < W.heap.size) : RdS W b q gq gc go hq asked a nc cap t c cs w' L v r' :=
  ⟨h.fr.trans f (fun k h => .inl (.inl h)), hr, by rw [f.block q (by have := h.fr.size; omega) (fun h => d1 h.symm)]; exact h.qb, f.cell h.gqc (fun h => d2 h.symm), h.gcc.keep f (fun h => d3 h.symm), h.out.keep f (fun k hk => by omega), by rw [f.block go (by have := h.fr.size; omega) (fun h => d4 h.symm)]; exact h.gob⟩
theorem RdS.put {W : World} {b q gq gc go : Nat} {hq : Hd} {asked : Bool} {a : Option Addr} {nc cap : Nat} {t c t' c' : Int} {cs : Array Value} {wr w' : World} {L : List RowR} {v : Value} {r : List UInt8} (h : RdS W b q gq gc go hq asked a nc cap t' c' cs wr L v r)
    (f : Fr (fun k => k = q) wr w') (hb : w'.heap[q]? = some (.cells (qCells hq asked a nc cap t c) 67 (0, 0))) (l1 : q < W.heap.size) (d1 : b ≠ q) (d2 : q ≠ gq) (d3 : q ≠ gc) (d4 : q ≠ go) (l2 : go < W.heap.size := by omega) : RdS W b q gq gc go hq asked a nc cap t c cs w' L v r :=
  ⟨h.fr.trans f (fun k h => .inl (.inr (.inl h))), h.rd.keep f d1, hb, f.cell h.gqc (fun h => d2 h.symm), h.gcc.keep f (fun h => d3 h.symm), h.out.keep f (fun k hk => by omega), by rw [f.block go (by have := h.fr.size; omega) (fun h => d4 h.symm)]; exact h.gob⟩

set_option maxHeartbeats 8000000 in
set_option maxRecDepth 100000 in
theorem rd_tail {W wa : World} {b q gq gc go : Nat} {hq : Hd} {asked : Bool} {a : Option Addr} {nc cap : Nat} {t c c0 c1 c2 c3 : Int} {r0 : List UInt8} {n : Nat} (hlt : b < W.heap.size ∧ q < W.heap.size ∧ go < W.heap.size ∧ gq < W.heap.size ∧ gc < W.heap.size)
    (d1a : b ≠ q) (d1b : b ≠ gq) (d1c : b ≠ gc) (d1d : b ≠ go) (_d2a : q ≠ gq) (_d2b : q ≠ gc) (d2c : q ≠ go) (_d3a : gq ≠ gc) (d3b : gq ≠ go) (d4 : gc ≠ go) (hn : c1 = n ∧ n ≤ 65535) (hu : r0.length ≤ 100000)
    (S0 : Hid (RdS W b q gq gc go hq asked a nc cap t c #[.int .u16 c0, .int .u16 c1, .int .u16 c2, .int .u16 c3] wa [] (.slice none 0 0) r0)) {O : Int × Int × List RRec × RAll} (HO : Hid (O = (t, c, (rdRecs n r0).1, (rdRecs n r0).2)))
    {s5 s6 s7 s8 s9 s10 s11 s12 s13 s14 s15 s16 s17 s18 s19 s20 : Value} :
    Code.wp Try.prog (codeAt [1, 0] ((Try.f112).body.getD .skip)) (Exit.then (fun A w => Code.wp Try.prog (codeAt [1, 1] ((Try.f112).body.getD .skip)) (bodyPost Try.prog Try.f112 (Read1End b q go hq asked a nc cap O W)) A w) (bodyPost Try.prog Try.f112 (Read1End b q go hq asked a nc cap O W))) ⟨List.toArray (Value.pointer (some ⟨b, 0, none⟩) :: Value.pointer (some ⟨gq, 0, none⟩) :: Value.pointer (some ⟨gc, 0, none⟩) :: Value.pointer (some ⟨go, 0, none⟩) :: undef :: s5 :: s6 :: s7 :: s8 :: s9 :: s10 :: s11 :: s12 :: s13 :: s14 :: s15 :: s16 :: s17 :: s18 :: s19 :: s20 :: undef :: undef :: undef :: undef :: undef :: undef :: undef :: undef :: undef :: undef :: []), []⟩ wa := by
  obtain ⟨i1, hi1, hi2, hi3, hi4⟩ := info_parts Try.zeroRRec
  obtain ⟨rfl, hn1⟩ := hn
  obtain ⟨hl1, hl2, hl3, hl4, hl5⟩ := hlt
  have y1 := S0.out.gcc 1 _ rfl
  conv => arg 2; whnf
  go_wp2_with fail
  conv => arg 2; whnf
  go_wp2_with fail
  go_loopw [23] (fun iv wr => ∃ (k : Nat) (L : List RowR) (v : Value) (r : List UInt8), iv = .int .u16 k ∧ k ≤ n ∧ RdS W b q gq gc go hq asked a nc cap t c #[.int .u16 c0, .int .u16 n, .int .u16 c2, .int .u16 c3] wr L v r ∧
      Hid (rdRecs n r0 = (L.map Prod.fst ++ (rdRecs (n - k) r).1, (rdRecs (n - k) r).2)) ∧ L.length * 12 + r.length ≤ 100000) (fun iv _ => n - (intOf iv).toNat)
  case atStart => exact ⟨0, [], _, r0, rfl, Nat.zero_le _, S0.out, Lib.hid (by simp), by simpa using hu⟩
  case round =>
    clear S0 y1
    obtain ⟨k, L, v, r, rfl, hk, st, hres, hlen⟩ := hrel
    have ST := Lib.hid st
    obtain ⟨av, cv, rfl⟩ := st.out.slice
    clear st
    by_cases hkn : k < n
    · obtain ⟨d, hd⟩ : ∃ d, n - k = d + 1 := ⟨n - k - 1, by omega⟩
      rw [hd] at hres
      have CR := Lib.hid (record_any b r wr.drew ST.out.rd.drew (by omega))
      unfold RecordEnd at CR
      rw [rdRecs_succ] at hres
      have hd2 : n - (k + 1) = d := by omega
      have y4 : wr.cell? ⟨go, 0, none⟩ = some (.slice av L.length cv) := by rw [Lib.cell_of_heap ST.out.gob]; rfl
      haveI : Nonempty (WC (fun w => w.cell? ⟨go, 0, none⟩ = some (.slice av L.length cv))) := ⟨⟨_, y4⟩⟩
      have x4 : ∀ z : WC (fun w => w.cell? ⟨go, 0, none⟩ = some (.slice av L.length cv)), z.val.cell? ⟨go, 0, none⟩ = some (.slice av L.length cv) := fun z => z.ok
      have HLN := Lib.hid (fun (x : RRec) rest (h : rdRec r = .ok x rest) => rdRec_len h)
      cases hp : rdRec r with
      | err e =>
        rw [hp] at CR hres
        have hO : O = (t, c, L.map Prod.fst ++ [], .err e) := by rw [HO.out, hres.out]
        clear hp HO hres HLN
        subst hO
        go_upto_region 5 with fail
        refine wp_region_last 5 [2, 3, 4] [2] (fun w' => ∃ z : WC (fun w => w.cell? ⟨go, 0, none⟩ = some (.slice av L.length cv)), w' = z.val) (by kernel_rfl) (by kernel_rfl) (fun c a w d v h => by cases d <;> exact h) (fun c a w d v h => by cases d <;> exact h) ⟨⟨wr.drew, y4⟩, rfl⟩ ?_
        simp only [List.take]
        repeat (refine wpU_q (by rfl) (by rfl) ?_; go_big_quiet_step (exact rfl); refine wpQuiet_nil ?_)
        refine wpU_e (by rfl) ?_
        go_wp2_with fail
        refine CR.out.mono ?_
        rintro e1 w7 ⟨f, he⟩
        subst he
        have ST7 := Lib.hid (ST.out.fr.trans (Fr.trans ((Fr.refl (fun k => k = b) wr).drew) f (fun k h => .inl h)) (fun k h => .inl (.inl h)))
        have f' : Fr (fun k => k = b) wr w7 := Fr.trans ((Fr.refl (fun k => k = b) wr).drew) f (fun k h => .inl h)
        have Z : Hid (Read1End b q go hq asked a nc cap (t, c, L.map Prod.fst ++ [], .err e) W (.panicked [{ v := refused e, recovered := false }]) w7) := Lib.hid
          ⟨ST7.out, by rw [f'.block q (by have := ST.out.fr.size; omega) (fun h => d1a h.symm)]; exact ST.out.qb, L, _, by simp, ST.out.out.keep f' (fun k hk => by omega), by rw [f'.block go (by have := ST.out.fr.size; omega) (fun h => d1d h.symm)]; exact ST.out.gob, rfl⟩
        clear f f' ST7
        go_wp2_with fail
        exact ⟨rfl, Z.out⟩
      | ok x rest =>
        have hln := HLN.out x rest hp
        rw [hp] at CR hres
        have HRS : Hid (rdRecs n r0 = (L.map Prod.fst ++ (x :: (rdRecs (n - (k + 1)) rest).1), (rdRecs (n - (k + 1)) rest).2)) := Lib.hid (by rw [hd2]; exact hres.out)
        clear hp hres hd hd2 HLN
        go_upto_region 5 with fail
        refine wp_region_last 5 [2, 3, 4] [2] (fun w' => ∃ z : WC (fun w => w.cell? ⟨go, 0, none⟩ = some (.slice av L.length cv)), w' = z.val) (by kernel_rfl) (by kernel_rfl) (fun c a w d v h => by cases d <;> exact h) (fun c a w d v h => by cases d <;> exact h) ⟨⟨wr.drew, y4⟩, rfl⟩ ?_
        simp only [List.take]
        repeat (refine wpU_q (by rfl) (by rfl) ?_; go_big_quiet_step (exact rfl); refine wpQuiet_nil ?_)
        refine wpU_e (by rfl) ?_
        go_wp2_with fail
        refine CR.out.mono ?_
        rintro e1 w7 ⟨f, hr7, ta, tc, rfl, ow7⟩
        have ST7 := Lib.hid (ST.out.step (Fr.trans ((Fr.refl (fun k => k = b) wr).drew) f (fun k h => .inl h)) hr7 hl2 hl3 d1a d1b d1c d1d hl1)
        have OW7 : Hid (w7.ownsRow W.heap.size 9 1 (.slice ta x.target.length tc) x.target.length (strVs x.target)) := Lib.hid (own_base ow7 (by rw [World.size_drew]; exact ST.out.fr.size))
        have z4 : w7.cell? ⟨go, 0, none⟩ = some (.slice av L.length cv) := by rw [Lib.cell_of_heap ST7.out.gob]; rfl
        clear f hr7 ow7 CR ST
        go_wp2_with fail
        refine ⟨⟨⟨_, z4⟩, rfl⟩, ?_⟩
        refine wpU_e (by rfl) ?_
        go_wp2_with fail
        obtain ⟨w8, hw8⟩ : ∃ w8, w8 = w7.alloc (.cells (x.arr ta tc) 110) := ⟨_, rfl⟩
        have f8 : Gr w7 w8 := by rw [hw8]; exact (Fr.refl _ _).alloc _
        have N8 := Lib.hid (show ∀ (j : Nat) (u : Value), (x.cells ta tc)[j]? = some u → w8.cell? ((⟨w7.heap.size, 0, none⟩ : Addr).add j) = some u by rw [hw8]; exact row_news w7 (x.arr ta tc) 110)
        have R8 := Lib.hid (ST7.out.out.keep f8 (fun _ h => h.elim))
        have OW8 := Lib.hid (own_fr OW7.out f8 (fun _ _ h => h))
        have hs8 : W.heap.size ≤ w8.heap.size := Nat.le_trans ST7.out.fr.size f8.size
        have z8 := f8.cell z4 (fun h => h)
        have hlb : w7.heap.size < w8.heap.size := by rw [hw8]; simp
        rw [← hw8]
        refine ⟨⟨⟨w8, z8⟩, rfl⟩, ?_⟩
        refine wpU_e (by rfl) ?_
        clear hw8
        go_wp2_with (at_builtin; refine wpList_append_own _ rfl _ _ 94 rfl W.heap.size 110 i1 (.agg #[.int .u16 0, .int .u32 0, .int .u8 0, .int .u8 0, .int .u8 0, .int .u8 0, .int .u16 0, .int .u16 0, .int .u16 0, .slice none 0 0]) 10 48 Try.underlying94 hi1 hi2 hi3 hi4 rfl (by decide) _ _ _ rfl R8.out.row ⟨w7.heap.size, 0, none⟩ 1 1 (x.cells ta tc) rfl rfl N8.out (rr_one x ta tc) (by unfold maxLen; omega) (by omega) hs8 ?_)
        intro v9 w9 ho9 hg9 _
        have f9 : Fr (fun k => W.heap.size ≤ k) w8 w9 := ((Fr.refl (fun k => W.heap.size ≤ k) _)).grown hg9 (fun q hq => .inl (R8.out.row.lt q hq).1)
        have R9 : Hid (RowsOwn W.heap.size w9 (L ++ [(x, ta, tc)]) v9) := Lib.hid (by
          refine ⟨by simpa [RowR.cells] using ho9, fun y hy => ?_⟩
          rcases List.mem_append.1 hy with hy | hy
          · exact row_grown (R8.out.tgt y hy) hg9 (fun g hg => row_sep (R8.out.tgt y hy) R8.out.row (by decide) g hg)
          · rw [List.mem_singleton.1 hy]
            exact row_grown OW8.out hg9 (fun g hg => row_sep OW8.out R8.out.row (by decide) g hg))
        have f79 : Fr (fun k => W.heap.size ≤ k) w7 w9 := Fr.trans (Fr.mono (T := fun k => W.heap.size ≤ k) f8 (fun _ _ h => h.elim)) f9 (fun k h => .inl h)
        have hs7 := ST7.out.fr.size
        have G9 := Lib.hid (show w9.heap[go]? = some (.cells #[.slice av L.length cv] 94 (0, 0)) by rw [f79.block go (by omega) (by omega)]; exact ST7.out.gob)
        have Q9 := Lib.hid (show w9.heap[q]? = some (.cells (qCells hq asked a nc cap t c) 67 (0, 0)) by rw [f79.block q (by omega) (by omega)]; exact ST7.out.qb)
        have P9 := Lib.hid (f79.cell ST7.out.gqc (by simp only; omega))
        obtain ⟨a9, c9, e9⟩ := R9.out.slice
        have hl10 : (L ++ [(x, ta, tc)]).length = L.length + 1 := by simp
        rw [hl10] at e9
        subst e9
        clear hl10
        have C9 := Lib.hid (ST7.out.gcc.keep f79 (by omega))
        have D9 := Lib.hid (ST7.out.rd.keep f79 (by omega))
        have F9 := Lib.hid (ST7.out.fr.trans f79 (fun k h => .inr h))
        have z9 : w9.cell? ⟨go, 0, none⟩ = some (.slice av L.length cv) := by rw [Lib.cell_of_heap G9.out]; rfl
        have z10 : w9.frozen? ⟨go, 0, none⟩ = false := Lib.frozen_of_heap G9.out 0
        clear ho9 hg9 f9 f79 R8 OW8 OW7 ST7 N8 f8 z4 z8 HO hi1 hi2 hi3 hi4
        go_wp2_with fail
        refine ⟨⟨⟨_, z9⟩, rfl⟩, ?_⟩
        repeat (refine wpU_q (by rfl) (by rfl) ?_; go_big_quiet_step (exact rfl); refine wpQuiet_nil ?_)
        refine wpU_nil ?_
        simp only [lastQ, List.drop]
        go_upto_region 6 with fail
        obtain ⟨wz, hwz⟩ : ∃ v, v = w9.setCell ⟨go, 0, none⟩ (.slice a9 (L.length + 1) c9) := ⟨_, rfl⟩
        rw [← hwz]
        have fz : Fr (fun k => k = go) w9 wz := by rw [hwz]; exact fr_put _ _ _ _
        have hgz := blk_set G9.out 0 (.slice a9 (L.length + 1) c9)
        rw [← hwz] at hgz
        have STZ : Hid (RdS W b q gq gc go hq asked a nc cap t c #[.int .u16 c0, .int .u16 n, .int .u16 c2, .int .u16 c3] wz (L ++ [(x, ta, tc)]) (.slice a9 (L.length + 1) c9) rest) := Lib.hid
          ⟨F9.out.trans fz (fun k h => .inl (.inr (.inr h))), D9.out.keep fz d1d, by rw [fz.block q (by have := F9.out.size; omega) (fun h => d2c h)]; exact Q9.out, fz.cell P9.out (fun h => d3b h), C9.out.keep fz (fun h => d4 h), R9.out.keep fz (fun k hk => by omega), hgz⟩
        have HRS2 : Hid (rdRecs n r0 = ((L ++ [(x, ta, tc)]).map Prod.fst ++ (rdRecs (n - (k + 1)) rest).1, (rdRecs (n - (k + 1)) rest).2)) := Lib.hid (by rw [HRS.out]; simp)
        have hl9 : (L ++ [(x, ta, tc)]).length * 12 + rest.length ≤ 100000 := by rw [List.length_append]; simp only [List.length_cons, List.length_nil]; omega
        have HL9 := Lib.hid hl9
        clear fz hgz hwz F9 D9 Q9 P9 C9 R9 G9 HRS z9 z10 hl9 hlen hln
        go_wp2_with fail
        go_roundw
        case rel => exact ⟨k + 1, L ++ [(x, ta, tc)], _, rest, by go_num, by omega, STZ.out, HRS2.out |> Lib.hid, HL9.out⟩
        case measure => simp [intOf]; omega
    · have hkn' : k = n := by omega
      subst hkn'
      have hO : O = (t, c, L.map Prod.fst, .ok r) := by rw [HO.out, hres.out]; simp [rdRecs]
      clear HO hres
      subst hO
      go_wp2_with fail
      go_end0
      exact ⟨ST.out.fr, ST.out.qb, L, _, rfl, ST.out.out, ST.out.gob, rfl, ST.out.rd⟩

set_option maxHeartbeats 8000000 in
set_option maxRecDepth 100000 in
theorem rread1_any (b q gq gc go : Nat) (hq : Hd) (asked : Bool) (a : Option Addr) (nc cap : Nat) (c0 c1 c2 c3 : Int) (u : List UInt8) (W : World)
    (hlt : b < W.heap.size ∧ q < W.heap.size ∧ go < W.heap.size ∧ gq < W.heap.size ∧ gc < W.heap.size)
    (ST0 : RdS W b q gq gc go hq asked a nc cap 0 0 #[.int .u16 c0, .int .u16 c1, .int .u16 c2, .int .u16 c3] W [] (.slice none 0 0) u)
    (d1 : b ≠ q ∧ b ≠ gq ∧ b ≠ gc ∧ b ≠ go) (d2 : q ≠ gq ∧ q ≠ gc ∧ q ≠ go) (d3 : gq ≠ gc ∧ gq ≠ go) (d4 : gc ≠ go) (hc1 : 0 ≤ c1 ∧ c1 ≤ 65535) (hu : u.length ≤ 100000) :
    Calls Try.prog 112 #[.pointer (some ⟨b, 0, none⟩), .pointer (some ⟨gq, 0, none⟩), .pointer (some ⟨gc, 0, none⟩), .pointer (some ⟨go, 0, none⟩)] W (Read1End b q go hq asked a nc cap (bodyO asked u c1.toNat) W) := by
  obtain ⟨O, hO⟩ : ∃ O, O = bodyO asked u c1.toNat := ⟨_, rfl⟩
  rw [← hO]
  obtain ⟨n, hn⟩ : ∃ n : Nat, c1 = n ∧ n ≤ 65535 := ⟨c1.toNat, by omega⟩
  have hn2 : c1.toNat = n := by omega
  rw [hn2] at hO
  have HO := Lib.hid hO
  have S0 := Lib.hid ST0
  have hltq := hlt.1
  obtain ⟨d1a, d1b, d1c, d1d⟩ := d1
  obtain ⟨d2a, d2b, d2c⟩ := d2
  obtain ⟨d3a, d3b⟩ := d3
  have y0 := ST0.gqc
  have y1 : W.cell? ⟨q, 13, none⟩ = some (.bool asked) := by rw [Lib.cell_of_heap ST0.qb]; rfl
  clear ST0 hO
  cases asked
  · have hO : O = (0, 0, (rdRecs n u).1, (rdRecs n u).2) := HO.out
    have HO2 := Lib.hid hO
    clear hO HO
    go_enter Try.func112, Try.ntmps112
    go_upto_region 3 with fail
    refine wp_tail ?_ (by assumption)
    exact rd_tail (n := n) hlt d1a d1b d1c d1d d2a d2b d2c d3a d3b d4 hn hu S0 HO2
  · haveI : Nonempty (WC (fun w => w.cell? ⟨gq, 0, none⟩ = some (.pointer (some ⟨q, 0, none⟩)))) := ⟨⟨W, y0⟩⟩
    have x4 : ∀ z : WC (fun w => w.cell? ⟨gq, 0, none⟩ = some (.pointer (some ⟨q, 0, none⟩))), z.val.cell? ⟨gq, 0, none⟩ = some (.pointer (some ⟨q, 0, none⟩)) := fun z => z.ok
    go_enter Try.func112, Try.ntmps112
    by_cases l0 : u.length < 2
    · have hO : O = (0, 0, [], .err 2) := by rw [HO.out]; unfold bodyO; rw [if_pos rfl, if_pos l0]
      subst hO
      have C := Lib.hid (readNum_short b 2 (u.drop 0) W.drew S0.out.rd.drew (by omega) (by omega) (by rw [List.length_drop]; omega) 2 rfl)
      go_upto_region 1 with fail
      refine wp_region_last 6 [2] [2] (fun w' => ∃ z : WC (fun w => w.cell? ⟨gq, 0, none⟩ = some (.pointer (some ⟨q, 0, none⟩))), w' = z.val) (by kernel_rfl) (by kernel_rfl) (fun c a w d v h => by cases d <;> exact h) (fun c a w d v h => by cases d <;> exact h) ⟨⟨W.drew, S0.out.gqc⟩, rfl⟩ ?_
      simp only [List.take]
      repeat (refine wpU_q (by rfl) (by rfl) ?_; go_big_quiet_step (exact rfl); refine wpQuiet_nil ?_)
      refine wpU_e (by rfl) ?_
      go_wp2_with fail
      refine C.out.mono ?_
      rintro e w' ⟨rfl, rfl⟩
      go_wp2_with fail
      exact ⟨rfl, S0.out.fr.drew, S0.out.qb, [], _, rfl, (S0.out.out.keep ((Fr.refl (fun _ => False) W).drew) (fun _ h => h.elim)), S0.out.gob, rfl⟩
    have C := Lib.hid (readNum_ok b 2 (u.drop 0) W.drew S0.out.rd.drew (by omega) (by omega) (by rw [List.length_drop]; omega) 2 rfl)
    rw [two_heads, List.drop_drop] at C
    have b0 := numAt_range u 0
    obtain ⟨n0, hn0⟩ : ∃ n, n = numAt u 0 := ⟨_, rfl⟩
    rw [← hn0] at C b0
    have Hn0 := Lib.hid hn0
    clear hn0
    go_upto_region 1 with fail
    refine wp_region_last 6 [2] [2] (fun w' => ∃ z : WC (fun w => w.cell? ⟨gq, 0, none⟩ = some (.pointer (some ⟨q, 0, none⟩))), w' = z.val) (by kernel_rfl) (by kernel_rfl) (fun c a w d v h => by cases d <;> exact h) (fun c a w d v h => by cases d <;> exact h) ⟨⟨W.drew, S0.out.gqc⟩, rfl⟩ ?_
    simp only [List.take]
    repeat (refine wpU_q (by rfl) (by rfl) ?_; go_big_quiet_step (exact rfl); refine wpQuiet_nil ?_)
    refine wpU_e (by rfl) ?_
    go_wp2_with fail
    refine C.out.mono ?_
    rintro e m1 ⟨rfl, r1, f1⟩
    clear C
    have T1 := Lib.hid (S0.out.step (Fr.trans ((Fr.refl (fun k => k = b) W).drew) f1 (fun k h => .inl h)) r1 hlt.2.1 hlt.2.2.1 d1a d1b d1c d1d hltq)
    have k3 : m1.cell? ⟨q, 15, none⟩ = some (.int .u16 0) := by rw [Lib.cell_of_heap T1.out.qb]; rfl
    have k4 : m1.frozen? ⟨q, 15, none⟩ = false := Lib.frozen_of_heap T1.out.qb 15
    go_wp2_with fail
    refine ⟨⟨⟨_, T1.out.gqc⟩, rfl⟩, ?_⟩
    repeat (refine wpU_q (by rfl) (by rfl) ?_; go_big_quiet_step (exact rfl); refine wpQuiet_nil ?_)
    refine wpU_nil ?_
    simp only [lastQ, List.drop]
    go_upto_region 2 with fail
    obtain ⟨v1, hv1⟩ : ∃ v, v = m1.setCell ⟨q, 15, none⟩ (.int .u16 n0) := ⟨_, rfl⟩
    rw [← hv1]
    have f2 : Fr (fun k => k = q) m1 v1 := by rw [hv1]; exact fr_put _ _ _ _
    have S1 := Lib.hid (T1.out.put (t := n0) (c := 0) f2 (by rw [hv1]; exact blk_set T1.out.qb 15 (.int .u16 n0)) hlt.2.1 d1a d2a d2b d2c)
    clear r1 f1 f2 k3 k4 hv1 T1 S0 y0 y1
    by_cases l1 : u.length < 4
    · have hO : O = (n0, 0, [], .err 2) := by rw [HO.out]; unfold bodyO; rw [if_pos rfl, if_neg (by omega), if_pos l1, Hn0.out]
      subst hO
      have C := Lib.hid (readNum_short b 2 (u.drop 2) v1.drew S1.out.rd.drew (by omega) (by omega) (by rw [List.length_drop]; omega) 2 rfl)
      go_upto_region 2 with fail
      refine wp_region_last 6 [2] [2] (fun w' => ∃ z : WC (fun w => w.cell? ⟨gq, 0, none⟩ = some (.pointer (some ⟨q, 0, none⟩))), w' = z.val) (by kernel_rfl) (by kernel_rfl) (fun c a w d v h => by cases d <;> exact h) (fun c a w d v h => by cases d <;> exact h) ⟨⟨v1.drew, S1.out.gqc⟩, rfl⟩ ?_
      simp only [List.take]
      repeat (refine wpU_q (by rfl) (by rfl) ?_; go_big_quiet_step (exact rfl); refine wpQuiet_nil ?_)
      refine wpU_e (by rfl) ?_
      go_wp2_with fail
      refine C.out.mono ?_
      rintro e w' ⟨rfl, rfl⟩
      go_wp2_with fail
      exact ⟨rfl, S1.out.fr.drew, S1.out.qb, [], _, rfl, (S1.out.out.keep ((Fr.refl (fun _ => False) v1).drew) (fun _ h => h.elim)), S1.out.gob, rfl⟩
    have C := Lib.hid (readNum_ok b 2 (u.drop 2) v1.drew S1.out.rd.drew (by omega) (by omega) (by rw [List.length_drop]; omega) 2 rfl)
    rw [two_heads, List.drop_drop] at C
    have b1 := numAt_range u 2
    obtain ⟨n1, hn1⟩ : ∃ n, n = numAt u 2 := ⟨_, rfl⟩
    rw [← hn1] at C b1
    have Hn1 := Lib.hid hn1
    clear hn1
    go_upto_region 2 with fail
    refine wp_region_last 6 [2] [2] (fun w' => ∃ z : WC (fun w => w.cell? ⟨gq, 0, none⟩ = some (.pointer (some ⟨q, 0, none⟩))), w' = z.val) (by kernel_rfl) (by kernel_rfl) (fun c a w d v h => by cases d <;> exact h) (fun c a w d v h => by cases d <;> exact h) ⟨⟨v1.drew, S1.out.gqc⟩, rfl⟩ ?_
    simp only [List.take]
    repeat (refine wpU_q (by rfl) (by rfl) ?_; go_big_quiet_step (exact rfl); refine wpQuiet_nil ?_)
    refine wpU_e (by rfl) ?_
    go_wp2_with fail
    refine C.out.mono ?_
    rintro e m2 ⟨rfl, r1, f1⟩
    clear C
    have T1 := Lib.hid (S1.out.step (Fr.trans ((Fr.refl (fun k => k = b) v1).drew) f1 (fun k h => .inl h)) r1 hlt.2.1 hlt.2.2.1 d1a d1b d1c d1d hltq)
    have k3 : m2.cell? ⟨q, 16, none⟩ = some (.int .u16 0) := by rw [Lib.cell_of_heap T1.out.qb]; rfl
    have k4 : m2.frozen? ⟨q, 16, none⟩ = false := Lib.frozen_of_heap T1.out.qb 16
    go_wp2_with fail
    refine ⟨⟨⟨_, T1.out.gqc⟩, rfl⟩, ?_⟩
    repeat (refine wpU_q (by rfl) (by rfl) ?_; go_big_quiet_step (exact rfl); refine wpQuiet_nil ?_)
    refine wpU_nil ?_
    simp only [lastQ, List.drop]
    go_upto_region 3 with fail
    obtain ⟨v2, hv2⟩ : ∃ v, v = m2.setCell ⟨q, 16, none⟩ (.int .u16 n1) := ⟨_, rfl⟩
    rw [← hv2]
    have f2 : Fr (fun k => k = q) m2 v2 := by rw [hv2]; exact fr_put _ _ _ _
    have S2 := Lib.hid (T1.out.put (t := n0) (c := n1) f2 (by rw [hv2]; exact blk_set T1.out.qb 16 (.int .u16 n1)) hlt.2.1 d1a d2a d2b d2c)
    clear r1 f1 f2 k3 k4 hv2 T1 S1
    have HO2 : Hid (O = (n0, n1, (rdRecs n (u.drop 4)).1, (rdRecs n (u.drop 4)).2)) := Lib.hid (by rw [HO.out]; unfold bodyO; rw [if_pos rfl, if_neg l0, if_neg l1, Hn0.out, Hn1.out])
    clear HO this x4
    refine wp_tail ?_ (by assumption)
    exact rd_tail (n := n) hlt d1a d1b d1c d1d d2a d2b d2c d3a d3b d4 hn (by rw [List.length_drop]; omega) S2 HO2
end
end Go.Proofs.Ytkclgemkeifbaaa
