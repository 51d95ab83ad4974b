/-
  Package reply: record (printed by gen_reprec.py).
-/
import Derived.Test.YtkclgemkeifbaaaPackRead
import Derived.Test.YtkclgemkeifbaaaRepBuild
import Derived.Test.YtkclgemkeifbaaaNmRd
import Derived.Test.YtkclgemkeifbaaaRegionY
import Derived.Lib.LazyBuf
namespace Go.Proofs.Ytkclgemkeifbaaa
section
open Go.RowKit Go.Proofs

set_option maxHeartbeats 1000000 in
set_option maxRecDepth 100000 in
theorem packReadX_any (s : ByteArray) (F : FuncId) (cap : Array Value) (W : World) (T : Nat → Prop) (G : ROut → World → Prop) (hs : s.size ≤ 9223372036854775807) (hent : ∀ a w, (callFunc F (#[a] ++ cap)).run Try.prog w = .ok (.enter F (#[a] ++ cap)) w)
    (hT : ∀ k, T k → k < W.heap.size)
    (hc : ∀ w, Fr (fun _ => False) W w → W.heap.size + 4 ≤ w.heap.size → RdAt w (W.heap.size + 1) s →
      Calls Try.prog F (#[.pointer (some ⟨W.heap.size + 1, 0, none⟩)] ++ cap) w fun e w' => Fr (fun k => wS W.heap.size k ∨ T k) w w' ∧ ∃ x, REnds (W.heap.size + 1) w' x e ∧ G x w') :
    Calls Try.prog 53 #[.string s, .func (.func F) #[] cap] W fun e w' => ∃ w0 x, G x w0 ∧ e = x.ending ∧ Fr (fun k => k = W.heap.size + 3) w0 w' ∧ W.heap.size ≤ w0.heap.size ∧ Fr (fun k => W.heap.size ≤ k ∨ T k) W w' := by
  have hmf : ∀ (fn : Fn) (first cap : Array Value) (w : World), (Instr.makeFunc fn first cap).run Try.prog w = .ok (.func fn first cap) w := fun _ _ _ _ => rfl
  obtain ⟨w3, hw3, hf3, hs3, b0, b1, b2⟩ := read_start W s (.func (.func F) #[] cap)
  have hb4 : ∀ k, (w3.alloc (.cells #[.int .i64 0] 37)).heap[k]? = if k = W.heap.size + 3 then some (.cells #[.int .i64 0] 37) else w3.heap[k]? := fun k => by rw [heap_alloc_if, hs3]
  have hw4 : RdAt (w3.alloc (.cells #[.int .i64 0] 37)) (W.heap.size + 1) s :=
    ⟨by rw [World.cell?, hb4, if_neg (by simp), b1]; rfl, by rw [World.frozen?, hb4, if_neg (by simp), b1]; rfl, hs⟩
  have hf4 := hf3.alloc (.cells #[.int .i64 0] 37)
  have hcall := read1_any W.heap.size F cap (w3.alloc (.cells #[.int .i64 0] 37)) _ hent
    (by rw [World.cell?, hb4, if_neg (by simp), b0]; rfl) (by rw [World.cell?, hb4, if_neg (by simp), b2]; rfl) (hc _ hf4 (by simp [hs3]) hw4)
    (by rintro e w' ⟨_, x, hx, _⟩; cases hx; exact .inl rfl; exact .inr ⟨_, rfl⟩; exact .inr ⟨_, rfl⟩)
  have hrun := run_any 90 #[.pointer (some ⟨W.heap.size, 0, none⟩), .pointer (some ⟨W.heap.size + 2, 0, none⟩)] w3 _ (fun w => enters_fn Try.func90 (by kernel_rfl) rfl _ w) hcall
    (by
      rintro e w' ⟨hf, x, hx, _⟩
      have hr : ¬ (wS W.heap.size (W.heap.size + 3) ∨ T (W.heap.size + 3)) := by
        intro h; rcases h with h | h
        · unfold wS at h; omega
        · have := hT _ h; omega
      rw [hs3]
      have c4 : (w3.alloc (.cells #[.int .i64 0] 37)).cell? ⟨W.heap.size + 3, 0, none⟩ = some (.int .i64 0) := by rw [World.cell?, hb4, if_pos rfl]; rfl
      refine ⟨hf.cell c4 hr, by rw [hf.frozen c4 hr, World.frozen?, hb4, if_pos rfl]; rfl, ?_⟩
      cases hx with
      | ok l => exact ⟨_, _, .ret⟩
      | ref c => exact ⟨_, _, .ref c⟩
      | other s => exact ⟨_, _, .other s⟩)
  have k2 : ∀ w', Fr (fun k => wS W.heap.size k ∨ T k) (w3.alloc (.cells #[.int .i64 0] 37)) w' → w'.cell? ⟨W.heap.size + 1 + 1, 0, none⟩ = some (.pointer (some ⟨W.heap.size + 1, 0, none⟩)) := by
    intro w' hf
    refine hf.cell (p := ⟨W.heap.size + 2, 0, none⟩) (by rw [World.cell?, hb4, if_neg (by simp), b2]; rfl) ?_
    intro h; rcases h with h | h
    · unfold wS at h; simp only at h; omega
    · have := hT _ h; simp only at this; omega
  have K2 := Lib.hid k2; clear k2
  have HR := Lib.hid hrun; clear hrun
  have HF4 := Lib.hid hf4; clear hf4
  have HB4 := Lib.hid hb4; clear hb4
  clear hcall hw4 hc b0 b1 b2
  go_enter Try.func53, Try.ntmps53
  go_wp2_with fail
  rw [← hw3]
  refine HR.out.mono ?_
  rw [hs3]
  rintro e w5 ⟨e0, w0, ⟨hf0, x, hx, hg⟩, hend⟩
  have hs0 := hf0.size
  simp only [World.size_alloc, hs3] at hs0
  have hW0 : Fr (fun k => W.heap.size ≤ k ∨ T k) W w0 := (HF4.out.mono (T := fun k => W.heap.size ≤ k ∨ T k) (by intro k hk h; exact h.elim)).trans hf0 (by
    intro k hk
    left
    rcases hk with hk | hk
    · unfold wS at hk; left; omega
    · right; exact hk)
  have hkk := K2.out w0 hf0
  have hn3 : w0.heap[W.heap.size + 3]? = some (.cells #[.int .i64 0] 37 (0, 0)) := by
    rw [hf0.block (W.heap.size + 3) (by simp [hs3]) (by
      intro h; rcases h with h | h
      · unfold wS at h; omega
      · have := hT _ h; omega), HB4.out, if_pos rfl]
  have HG := Lib.hid hg; clear hg
  have HW0 := Lib.hid hW0; clear hW0
  have HN3 := Lib.hid hn3; clear hn3
  clear hf0 HF4 HB4 K2 HR hw3 hf3
  cases hx with
  | ok rest hrd =>
    cases hend with
    | ret =>
      have hf5 : Fr (fun k => k = W.heap.size + 3) w0 (w0.setCell ⟨W.heap.size + 3, 0, none⟩ (.int .i64 0)) := (Fr.refl (fun k => k = W.heap.size + 3) w0).setCell (p := ⟨W.heap.size + 3, 0, none⟩) (.inl rfl) _
      have hk5 := hf5.cell hkk (by simp)
      have hr5 := hf5.cell hrd.1 (by simp)
      have H06 := Lib.hid hf5
      clear hrd hkk hf5
      by_cases hz : rest.size = 0
      · have hz' : rest = ByteArray.empty := by
          apply ByteArray.ext; apply Array.eq_empty_of_size_eq_zero; exact hz
        subst hz'
        go_wp2_with fail
        go_ret
        exact ⟨w0, .ok ByteArray.empty, HG.out, by simp [ROut.ending], H06.out, by omega, HW0.out.trans H06.out (by intro k hk; exact .inl (.inl (by omega)))⟩
      · have hq : rest.toList.isEmpty = false := by
          rw [ByteArray.toList_eq]
          cases hl : rest.data.toList with
          | nil => exact absurd (by rw [← ByteArray.size_data, ← Array.length_toList, hl]; rfl) hz
          | cons _ _ => rfl
        go_wp2_with fail
        go_ret
        exact ⟨w0, .ok rest, HG.out, by simp [ROut.ending, hz], H06.out, by omega, HW0.out.trans H06.out (by intro k hk; exact .inl (.inl (by omega)))⟩
  | ref c hc0 =>
    cases hend with
    | ref c =>
      have hlt : W.heap.size + 3 < w0.heap.size := by omega
      have h06 : Fr (fun k => k = W.heap.size + 3) w0 ((w0.setCell ⟨W.heap.size + 3, 0, none⟩ (.int .i64 c)).alloc (.cells #[.int .i64 c] 202)) := ((Fr.refl (fun k => k = W.heap.size + 3) w0).setCell (p := ⟨W.heap.size + 3, 0, none⟩) (.inl rfl) _).alloc _
      have H06 := Lib.hid h06; clear h06
      go_wp2_with fail
      go_ret
      exact ⟨w0, .ref c, HG.out, rfl, H06.out, by omega, HW0.out.trans H06.out (by intro k hk; exact .inl (.inl (by omega)))⟩
  | other s =>
    cases hend with
    | other s =>
      go_wp2_with fail
      exact ⟨rfl, _, .other s, HG.out, rfl, Fr.refl _ _, by omega, HW0.out⟩
end
section
open Go.RowKit Go.Proofs

/-- what comes of an SRV record's data -/
inductive SOut where
  | err (c : Int)
  | ok (p w t : Int) (l : List Lbl)
def servOut (d : List UInt8) : SOut :=
  if d.length < 6 then .err 2 else
  match rd (d.drop 6) 0 0 [] with
  | .err c => .err c
  | .ok l _ => .ok (numAt d 0) (numAt d 2) (numAt d 4) l
/-- what comes of reading a record -/
inductive ROne where
  | err (c : Int)
  | ok (r : RRec) (rest : List UInt8)
def num4 (s : List UInt8) (i : Nat) : Int := (getNum ((s.drop i).take 4) : Nat)
def rrec0 (typ ttl : Int) : RRec := ⟨typ, ttl, 0, 0, 0, 0, 0, 0, 0, []⟩
def byAt (d : List UInt8) (k : Nat) : Int := (bt d k : Nat)
def rrecA (ttl : Int) (d : List UInt8) : RRec := ⟨1, ttl, byAt d 0, byAt d 1, byAt d 2, byAt d 3, 0, 0, 0, []⟩
def rdRec (s : List UInt8) : ROne :=
  if s.length < 12 then .err 2 else
  if s.length < 12 + (numAt s 10).toNat then .err 2 else
  if numAt s 2 = 1 ∧ (numAt s 10).toNat = 4 then .ok (rrecA (num4 s 6) (s.drop 12)) (s.drop 16) else
  if numAt s 2 = 33 then
    match servOut ((s.drop 12).take (numAt s 10).toNat) with
    | .err c => .err c
    | .ok p w t l => .ok ⟨33, num4 s 6, 0, 0, 0, 0, p, w, t, l⟩ (s.drop (12 + (numAt s 10).toNat))
  else .err 4
/-- what comes of reading all of them: the records till then; the error, or the rest -/
inductive RAll where
  | err (c : Int)
  | ok (rest : List UInt8)
def rdRecs : Nat → List UInt8 → List RRec × RAll
  | 0, s => ([], .ok s)
  | k + 1, s => match rdRec s with
    | .err c => ([], .err c)
    | .ok r rest => (r :: (rdRecs k rest).1, (rdRecs k rest).2)
/-- what is read of a reply behind its head -/
structure RdQ where
  asked : Bool
  name : List Lbl
  t : Int
  c : Int
  l : List RRec
  e : Int
def RAll.code : RAll → Int
  | .err c => c
  | .ok rest => if rest.length = 0 then 0 else 3
def rdBody (asked : Bool) (nm : List Lbl) (u : List UInt8) (n : Nat) : RdQ :=
  if asked = true then
    if u.length < 2 then ⟨true, nm, 0, 0, [], 2⟩ else
    if u.length < 4 then ⟨true, nm, numAt u 0, 0, [], 2⟩ else
    ⟨true, nm, numAt u 0, numAt u 2, (rdRecs n (u.drop 4)).1, (rdRecs n (u.drop 4)).2.code⟩
  else ⟨false, nm, 0, 0, (rdRecs n u).1, (rdRecs n u).2.code⟩
def rdReply (s : List UInt8) (c0 c1 : Int) : RdQ :=
  if c0 = 1 then
    match rd s 12 12 [] with
    | .err e => ⟨false, [], 0, 0, [], e⟩
    | .ok nm k => rdBody true nm (s.drop k) c1.toNat
  else rdBody false [] (s.drop 12) c1.toNat

theorem servOut_ne {d : List UInt8} {c : Int} (h : servOut d = .err c) : c ≠ 0 := by
  unfold servOut at h
  split at h
  · cases h; decide
  · split at h
    · rename_i hr
      cases h
      rcases rd_err hr with rfl | rfl | rfl | rfl <;> decide
    · cases h
theorem rdRec_ne {s : List UInt8} {c : Int} (h : rdRec s = .err c) : c ≠ 0 := by
  unfold rdRec at h
  split at h
  · cases h; decide
  · split at h
    · cases h; decide
    · split at h
      · cases h
      · split at h
        · split at h
          · rename_i hs
            cases h
            exact servOut_ne hs
          · cases h
        · cases h; decide
theorem rdRec_len {s rest : List UInt8} {r : RRec} (h : rdRec s = .ok r rest) : rest.length + 12 ≤ s.length := by
  unfold rdRec at h
  split at h
  · cases h
  · split at h
    · cases h
    · split at h
      · cases h; simp; omega
      · split at h
        · split at h
          · cases h
          · cases h; simp; omega
        · cases h
theorem num4_range (s : List UInt8) (i : Nat) : 0 ≤ num4 s i ∧ num4 s i ≤ 4294967295 := by
  unfold num4
  have h : ∀ l : List UInt8, l.length ≤ 4 → getNum l < 256 ^ l.length := by
    intro l
    have : ∀ (l : List UInt8) (a : Nat), l.foldl (fun n b => 256 * n + b.toNat) a < (a + 1) * 256 ^ l.length := by
      intro l
      induction l with
      | nil => intro a; simp
      | cons b l ih =>
        intro a
        have hb := b.toNat_lt
        have h1 := ih (256 * a + b.toNat)
        have h2 : (256 * a + b.toNat + 1) * 256 ^ l.length ≤ (256 * (a + 1)) * 256 ^ l.length := Nat.mul_le_mul_right _ (by omega)
        simp only [List.foldl_cons, List.length_cons, Nat.pow_succ]
        have h3 : (256 * (a + 1)) * 256 ^ l.length = (a + 1) * (256 ^ l.length * 256) := by
          rw [Nat.mul_comm 256 (a + 1), Nat.mul_assoc, Nat.mul_comm 256]
        omega
    intro _
    have := this l 0
    unfold getNum
    simpa using this
  have h1 := h ((s.drop i).take 4) (by rw [List.length_take]; omega)
  have h2 : 256 ^ ((s.drop i).take 4).length ≤ 256 ^ 4 := Nat.pow_le_pow_right (by decide) (by rw [List.length_take]; omega)
  have h3 : (256 : Nat) ^ 4 = 4294967296 := rfl
  omega
theorem byAt_range (d : List UInt8) (k : Nat) : 0 ≤ byAt d k ∧ byAt d k ≤ 255 := by
  unfold byAt; have := bt_lt d k; omega
theorem rdRec_fits {s rest : List UInt8} {r : RRec} (h : rdRec s = .ok r rest) : r.Fits := by
  have a0 := num4_range s 6
  unfold rdRec at h
  split at h
  · cases h
  · split at h
    · cases h
    · split at h
      · cases h
        constructor <;> simp only [rrecA] <;> first | exact a0 | exact byAt_range _ _ | omega
      · split at h
        · split at h
          · cases h
          · rename_i hs
            cases h
            unfold servOut at hs
            split at hs
            · cases hs
            · split at hs
              · cases hs
              · cases hs
                constructor <;> simp only <;> first | exact a0 | exact numAt_range _ _ | omega
        · cases h
theorem rdRecs_fits : ∀ (k : Nat) (s : List UInt8), ∀ r ∈ (rdRecs k s).1, r.Fits
  | 0, _, r, hr => by simp [rdRecs] at hr
  | k + 1, s, r, hr => by
    unfold rdRecs at hr
    cases h : rdRec s with
    | err c => rw [h] at hr; simp at hr
    | ok x rest =>
      rw [h] at hr
      simp only [List.mem_cons] at hr
      rcases hr with rfl | hr
      · exact rdRec_fits h
      · exact rdRecs_fits k rest r hr
end
section
open Go.RowKit Go.Proofs

theorem two_heads (l : List UInt8) (i : Nat) : ((getNum ((l.drop i).take 2) : Nat) : Int) = numAt l i := rfl
theorem RdL.drewR {w : World} {b : Nat} {l : List UInt8} (h : RdL w b l) : RdL w.drew b l := h.drew
/-- what service's call does to the record at g -/
def ServEnd (b g : Nat) (r : RRec) (o : SOut) (w : World) (e : Ending) (w' : World) : Prop :=
  Fr (fun k => k = b ∨ k = g) w w' ∧ match o with
  | .err c => e = .panicked [{ v := refused c, recovered := false }]
  | .ok p wt pt l => e = .returned (.tuple #[]) ∧ RdL w' b [] ∧ ∃ a cap, w'.ownsRow w.heap.size 9 1 (.slice a l.length cap) l.length (strVs l) ∧
      w'.heap[g]? = some (.cells (RRec.arr { r with prio := p, weight := wt, port := pt, target := l } a cap) 110 (0, 0))

set_option maxHeartbeats 4000000 in
set_option maxRecDepth 100000 in
theorem serv1_any (b gp g : Nat) (typ ttl : Int) (d : List UInt8) (w : World) (hr : RdL w b d) (hp : w.cell? ⟨gp, 0, none⟩ = some (.pointer (some ⟨g, 0, none⟩))) (hg : w.heap[g]? = some (.cells ((rrec0 typ ttl).arr none 0) 110 (0, 0)))
    (d1 : b ≠ gp) (d2 : b ≠ g) (d3 : gp ≠ g) (hd : d.length ≤ 100000) :
    Calls Try.prog 127 #[.pointer (some ⟨b, 0, none⟩), .pointer (some ⟨gp, 0, none⟩)] w (ServEnd b g (rrec0 typ ttl) (servOut d) w) := by
  obtain ⟨O, hO⟩ : ∃ O, O = servOut d := ⟨_, rfl⟩
  rw [← hO]
  unfold servOut at hO
  have HO := Lib.hid hO
  have R0 := Lib.hid (show RdL w b (d.drop 0) from hr)
  have G0 := Lib.hid (show w.heap[g]? = some (.cells (#[.int .u16 typ, .int .u32 ttl, .int .u8 0, .int .u8 0, .int .u8 0, .int .u8 0, .int .u16 0, .int .u16 0, .int .u16 0, .slice none 0 0]) 110 (0, 0)) from hg)
  have P0 := Lib.hid hp
  have F0 := Lib.hid (Fr.refl (fun k => k = b ∨ k = g) w)
  haveI : Nonempty (WC (fun w => w.cell? ⟨gp, 0, none⟩ = some (.pointer (some ⟨g, 0, none⟩)))) := ⟨⟨w, hp⟩⟩
  have x4 : ∀ z : WC (fun w => w.cell? ⟨gp, 0, none⟩ = some (.pointer (some ⟨g, 0, none⟩))), z.val.cell? ⟨gp, 0, none⟩ = some (.pointer (some ⟨g, 0, none⟩)) := fun z => z.ok
  have hlg : g < w.heap.size := (Array.getElem?_eq_some_iff.1 hg).1
  clear hO hr hp hg
  go_enter Try.func127, Try.ntmps127
  by_cases l0 : d.length < 2
  · have hO : O = .err 2 := by rw [HO.out, if_pos (by omega)]
    subst hO
    have C := Lib.hid (readNum_short b 2 (d.drop 0) w.drew R0.out.drew (by omega) (by omega) (by rw [List.length_drop]; omega) 2 rfl)
    go_upto_region 0 with fail
    refine wp_region_last 6 [2] [2] (fun w' => ∃ z : WC (fun w => w.cell? ⟨gp, 0, none⟩ = some (.pointer (some ⟨g, 0, none⟩))), w' = z.val) (by kernel_rfl) (by kernel_rfl) (fun c a w d v h => by cases d <;> exact h) (fun c a w d v h => by cases d <;> exact h) ⟨⟨w.drew, P0.out⟩, rfl⟩ ?_
    simp only [List.take]
    repeat (refine wpU_q (by rfl) (by rfl) ?_; go_big_quiet_step (exact rfl); refine wpQuiet_nil ?_)
    refine wpU_e (by rfl) ?_
    go_wp2_with fail
    refine C.out.mono ?_
    rintro e w' ⟨rfl, rfl⟩
    go_wp2_with fail
    exact ⟨rfl, F0.out.drew, rfl⟩
  have C := Lib.hid (readNum_ok b 2 (d.drop 0) w.drew R0.out.drew (by omega) (by omega) (by rw [List.length_drop]; omega) 2 rfl)
  rw [two_heads, List.drop_drop] at C
  have b0 := numAt_range d 0
  obtain ⟨n0, hn0⟩ : ∃ n, n = numAt d 0 := ⟨_, rfl⟩
  rw [← hn0] at C b0
  have Hn0 := Lib.hid hn0
  clear hn0
  go_upto_region 0 with fail
  refine wp_region_last 6 [2] [2] (fun w' => ∃ z : WC (fun w => w.cell? ⟨gp, 0, none⟩ = some (.pointer (some ⟨g, 0, none⟩))), w' = z.val) (by kernel_rfl) (by kernel_rfl) (fun c a w d v h => by cases d <;> exact h) (fun c a w d v h => by cases d <;> exact h) ⟨⟨w.drew, P0.out⟩, rfl⟩ ?_
  simp only [List.take]
  repeat (refine wpU_q (by rfl) (by rfl) ?_; go_big_quiet_step (exact rfl); refine wpQuiet_nil ?_)
  refine wpU_e (by rfl) ?_
  go_wp2_with fail
  refine C.out.mono ?_
  rintro e m1 ⟨rfl, r1, f1⟩
  clear C
  have k1 : m1.heap[g]? = some (.cells (#[.int .u16 typ, .int .u32 ttl, .int .u8 0, .int .u8 0, .int .u8 0, .int .u8 0, .int .u16 0, .int .u16 0, .int .u16 0, .slice none 0 0]) 110 (0, 0)) := by rw [f1.block g (by rw [World.size_drew]; have := F0.out.size; omega) (fun h => d2 h.symm)]; exact G0.out
  have k2 : m1.cell? ⟨gp, 0, none⟩ = some (.pointer (some ⟨g, 0, none⟩)) := f1.cell P0.out (fun h => d1 h.symm)
  have k3 : m1.cell? ⟨g, 6, none⟩ = some (.int .u16 0) := by rw [Lib.cell_of_heap k1]; rfl
  have k4 : m1.frozen? ⟨g, 6, none⟩ = false := Lib.frozen_of_heap k1 6
  go_wp2_with fail
  refine ⟨⟨⟨_, k2⟩, rfl⟩, ?_⟩
  repeat (refine wpU_q (by rfl) (by rfl) ?_; go_big_quiet_step (exact rfl); refine wpQuiet_nil ?_)
  refine wpU_nil ?_
  simp only [lastQ, List.drop]
  go_upto_region 1 with fail
  obtain ⟨v1, hv1⟩ : ∃ v, v = m1.setCell ⟨g, 6, none⟩ (.int .u16 n0) := ⟨_, rfl⟩
  rw [← hv1]
  have f2 : Fr (fun k => k = g) m1 v1 := by rw [hv1]; exact fr_put _ _ _ _
  have G1 := Lib.hid (show v1.heap[g]? = some (.cells (#[.int .u16 typ, .int .u32 ttl, .int .u8 0, .int .u8 0, .int .u8 0, .int .u8 0, .int .u16 n0, .int .u16 0, .int .u16 0, .slice none 0 0]) 110 (0, 0)) by rw [hv1]; exact blk_set k1 6 (.int .u16 n0))
  have R1 := Lib.hid (show RdL v1 b (d.drop 2) from r1.keep f2 d2)
  have P1 := Lib.hid (f2.cell k2 d3)
  have F1 := Lib.hid ((F0.out.drew.trans f1 (fun k h => .inl (.inl h))).trans f2 (fun k h => .inl (.inr h)))
  clear r1 f1 f2 k1 k2 k3 k4 hv1 R0 G0 P0 F0 l0
  by_cases l1 : d.length < 4
  · have hO : O = .err 2 := by rw [HO.out, if_pos (by omega)]
    subst hO
    have C := Lib.hid (readNum_short b 2 (d.drop 2) v1.drew R1.out.drew (by omega) (by omega) (by rw [List.length_drop]; omega) 2 rfl)
    go_upto_region 1 with fail
    refine wp_region_last 6 [2] [2] (fun w' => ∃ z : WC (fun w => w.cell? ⟨gp, 0, none⟩ = some (.pointer (some ⟨g, 0, none⟩))), w' = z.val) (by kernel_rfl) (by kernel_rfl) (fun c a w d v h => by cases d <;> exact h) (fun c a w d v h => by cases d <;> exact h) ⟨⟨v1.drew, P1.out⟩, rfl⟩ ?_
    simp only [List.take]
    repeat (refine wpU_q (by rfl) (by rfl) ?_; go_big_quiet_step (exact rfl); refine wpQuiet_nil ?_)
    refine wpU_e (by rfl) ?_
    go_wp2_with fail
    refine C.out.mono ?_
    rintro e w' ⟨rfl, rfl⟩
    go_wp2_with fail
    exact ⟨rfl, F1.out.drew, rfl⟩
  have C := Lib.hid (readNum_ok b 2 (d.drop 2) v1.drew R1.out.drew (by omega) (by omega) (by rw [List.length_drop]; omega) 2 rfl)
  rw [two_heads, List.drop_drop] at C
  have b1 := numAt_range d 2
  obtain ⟨n1, hn1⟩ : ∃ n, n = numAt d 2 := ⟨_, rfl⟩
  rw [← hn1] at C b1
  have Hn1 := Lib.hid hn1
  clear hn1
  go_upto_region 1 with fail
  refine wp_region_last 6 [2] [2] (fun w' => ∃ z : WC (fun w => w.cell? ⟨gp, 0, none⟩ = some (.pointer (some ⟨g, 0, none⟩))), w' = z.val) (by kernel_rfl) (by kernel_rfl) (fun c a w d v h => by cases d <;> exact h) (fun c a w d v h => by cases d <;> exact h) ⟨⟨v1.drew, P1.out⟩, rfl⟩ ?_
  simp only [List.take]
  repeat (refine wpU_q (by rfl) (by rfl) ?_; go_big_quiet_step (exact rfl); refine wpQuiet_nil ?_)
  refine wpU_e (by rfl) ?_
  go_wp2_with fail
  refine C.out.mono ?_
  rintro e m2 ⟨rfl, r1, f1⟩
  clear C
  have k1 : m2.heap[g]? = some (.cells (#[.int .u16 typ, .int .u32 ttl, .int .u8 0, .int .u8 0, .int .u8 0, .int .u8 0, .int .u16 n0, .int .u16 0, .int .u16 0, .slice none 0 0]) 110 (0, 0)) := by rw [f1.block g (by rw [World.size_drew]; have := F1.out.size; omega) (fun h => d2 h.symm)]; exact G1.out
  have k2 : m2.cell? ⟨gp, 0, none⟩ = some (.pointer (some ⟨g, 0, none⟩)) := f1.cell P1.out (fun h => d1 h.symm)
  have k3 : m2.cell? ⟨g, 7, none⟩ = some (.int .u16 0) := by rw [Lib.cell_of_heap k1]; rfl
  have k4 : m2.frozen? ⟨g, 7, none⟩ = false := Lib.frozen_of_heap k1 7
  go_wp2_with fail
  refine ⟨⟨⟨_, k2⟩, rfl⟩, ?_⟩
  repeat (refine wpU_q (by rfl) (by rfl) ?_; go_big_quiet_step (exact rfl); refine wpQuiet_nil ?_)
  refine wpU_nil ?_
  simp only [lastQ, List.drop]
  go_upto_region 2 with fail
  obtain ⟨v2, hv2⟩ : ∃ v, v = m2.setCell ⟨g, 7, none⟩ (.int .u16 n1) := ⟨_, rfl⟩
  rw [← hv2]
  have f2 : Fr (fun k => k = g) m2 v2 := by rw [hv2]; exact fr_put _ _ _ _
  have G2 := Lib.hid (show v2.heap[g]? = some (.cells (#[.int .u16 typ, .int .u32 ttl, .int .u8 0, .int .u8 0, .int .u8 0, .int .u8 0, .int .u16 n0, .int .u16 n1, .int .u16 0, .slice none 0 0]) 110 (0, 0)) by rw [hv2]; exact blk_set k1 7 (.int .u16 n1))
  have R2 := Lib.hid (show RdL v2 b (d.drop 4) from r1.keep f2 d2)
  have P2 := Lib.hid (f2.cell k2 d3)
  have F2 := Lib.hid ((F1.out.drew.trans f1 (fun k h => .inl (.inl h))).trans f2 (fun k h => .inl (.inr h)))
  clear r1 f1 f2 k1 k2 k3 k4 hv2 R1 G1 P1 F1 l1
  by_cases l2 : d.length < 6
  · have hO : O = .err 2 := by rw [HO.out, if_pos (by omega)]
    subst hO
    have C := Lib.hid (readNum_short b 2 (d.drop 4) v2.drew R2.out.drew (by omega) (by omega) (by rw [List.length_drop]; omega) 2 rfl)
    go_upto_region 2 with fail
    refine wp_region_last 6 [2] [2] (fun w' => ∃ z : WC (fun w => w.cell? ⟨gp, 0, none⟩ = some (.pointer (some ⟨g, 0, none⟩))), w' = z.val) (by kernel_rfl) (by kernel_rfl) (fun c a w d v h => by cases d <;> exact h) (fun c a w d v h => by cases d <;> exact h) ⟨⟨v2.drew, P2.out⟩, rfl⟩ ?_
    simp only [List.take]
    repeat (refine wpU_q (by rfl) (by rfl) ?_; go_big_quiet_step (exact rfl); refine wpQuiet_nil ?_)
    refine wpU_e (by rfl) ?_
    go_wp2_with fail
    refine C.out.mono ?_
    rintro e w' ⟨rfl, rfl⟩
    go_wp2_with fail
    exact ⟨rfl, F2.out.drew, rfl⟩
  have C := Lib.hid (readNum_ok b 2 (d.drop 4) v2.drew R2.out.drew (by omega) (by omega) (by rw [List.length_drop]; omega) 2 rfl)
  rw [two_heads, List.drop_drop] at C
  have b2 := numAt_range d 4
  obtain ⟨n2, hn2⟩ : ∃ n, n = numAt d 4 := ⟨_, rfl⟩
  rw [← hn2] at C b2
  have Hn2 := Lib.hid hn2
  clear hn2
  go_upto_region 2 with fail
  refine wp_region_last 6 [2] [2] (fun w' => ∃ z : WC (fun w => w.cell? ⟨gp, 0, none⟩ = some (.pointer (some ⟨g, 0, none⟩))), w' = z.val) (by kernel_rfl) (by kernel_rfl) (fun c a w d v h => by cases d <;> exact h) (fun c a w d v h => by cases d <;> exact h) ⟨⟨v2.drew, P2.out⟩, rfl⟩ ?_
  simp only [List.take]
  repeat (refine wpU_q (by rfl) (by rfl) ?_; go_big_quiet_step (exact rfl); refine wpQuiet_nil ?_)
  refine wpU_e (by rfl) ?_
  go_wp2_with fail
  refine C.out.mono ?_
  rintro e m3 ⟨rfl, r1, f1⟩
  clear C
  have k1 : m3.heap[g]? = some (.cells (#[.int .u16 typ, .int .u32 ttl, .int .u8 0, .int .u8 0, .int .u8 0, .int .u8 0, .int .u16 n0, .int .u16 n1, .int .u16 0, .slice none 0 0]) 110 (0, 0)) := by rw [f1.block g (by rw [World.size_drew]; have := F2.out.size; omega) (fun h => d2 h.symm)]; exact G2.out
  have k2 : m3.cell? ⟨gp, 0, none⟩ = some (.pointer (some ⟨g, 0, none⟩)) := f1.cell P2.out (fun h => d1 h.symm)
  have k3 : m3.cell? ⟨g, 8, none⟩ = some (.int .u16 0) := by rw [Lib.cell_of_heap k1]; rfl
  have k4 : m3.frozen? ⟨g, 8, none⟩ = false := Lib.frozen_of_heap k1 8
  go_wp2_with fail
  refine ⟨⟨⟨_, k2⟩, rfl⟩, ?_⟩
  repeat (refine wpU_q (by rfl) (by rfl) ?_; go_big_quiet_step (exact rfl); refine wpQuiet_nil ?_)
  refine wpU_nil ?_
  simp only [lastQ, List.drop]
  go_upto_region 3 with fail
  obtain ⟨v3, hv3⟩ : ∃ v, v = m3.setCell ⟨g, 8, none⟩ (.int .u16 n2) := ⟨_, rfl⟩
  rw [← hv3]
  have f2 : Fr (fun k => k = g) m3 v3 := by rw [hv3]; exact fr_put _ _ _ _
  have G3 := Lib.hid (show v3.heap[g]? = some (.cells (#[.int .u16 typ, .int .u32 ttl, .int .u8 0, .int .u8 0, .int .u8 0, .int .u8 0, .int .u16 n0, .int .u16 n1, .int .u16 n2, .slice none 0 0]) 110 (0, 0)) by rw [hv3]; exact blk_set k1 8 (.int .u16 n2))
  have R3 := Lib.hid (show RdL v3 b (d.drop 6) from r1.keep f2 d2)
  have P3 := Lib.hid (f2.cell k2 d3)
  have F3 := Lib.hid ((F2.out.drew.trans f1 (fun k h => .inl (.inl h))).trans f2 (fun k h => .inl (.inr h)))
  clear r1 f1 f2 k1 k2 k3 k4 hv3 R2 G2 P2 F2
  have zd := mk_size (d.drop 6)
  have hdl : (d.drop 6).length ≤ 100000 := by rw [List.length_drop]; omega
  have CL := Lib.hid (readerLeft_any b _ v3 R3.out)
  rw [zd] at CL
  have CR := Lib.hid (readRaw_ok b (d.drop 6).length (d.drop 6) v3 R3.out (Nat.le_refl _) (d.drop 6).length rfl)
  rw [List.take_length, List.drop_length] at CR
  have CN := Lib.hid (fun w => nmRead_any (d.drop 6) 0 (Nat.zero_le _) hdl w)
  have HRE := Lib.hid (fun c (h : rd (d.drop 6) 0 0 [] = .err c) => rd_err h)
  have HO2 : Hid (O = match rd (d.drop 6) 0 0 [] with | .err c => .err c | .ok l _ => .ok n0 n1 n2 l) := Lib.hid (by rw [HO.out, if_neg (by omega), Hn0.out, Hn1.out, Hn2.out] <;> (cases rd (d.drop 6) 0 0 [] <;> rfl))
  clear HO Hn0 Hn1 Hn2 zd x4 this
  generalize rd (d.drop 6) 0 0 [] = rr at *
  generalize d.drop 6 = u at *
  go_wp2_with fail
  refine CL.out.mono ?_
  rintro e v4 ⟨rfl, rfl⟩
  go_wp2_with fail
  refine CR.out.mono ?_
  rintro e v5 ⟨rfl, r5, f5⟩
  clear CL CR
  have R5 := Lib.hid r5
  have P5 := Lib.hid (f5.cell P3.out (fun h => d1 h.symm))
  have G5 := Lib.hid (show v5.heap[g]? = some (.cells (RRec.arr ⟨typ, ttl, 0, 0, 0, 0, n0, n1, n2, []⟩ none 0) 110 (0, 0)) by rw [f5.block g (by have := F3.out.size; omega) (fun h => d2 h.symm)]; exact G3.out)
  have F5 := Lib.hid (F3.out.trans f5 (fun k h => .inl (.inl h)))
  have s5 := F5.out.size
  clear r5 f5 R3 P3 G3 F3
  go_wp2_with fail
  refine (CN.out _).mono ?_
  rintro e v6 ⟨f6, h6⟩
  clear CN
  have P6 := Lib.hid (f6.cell P5.out (fun h => h))
  have G6 := Lib.hid (show v6.heap[g]? = some (.cells (RRec.arr ⟨typ, ttl, 0, 0, 0, 0, n0, n1, n2, []⟩ none 0) 110 (0, 0)) by rw [f6.block g (by omega) (fun h => h)]; exact G5.out)
  have F6 := Lib.hid (F5.out.trans f6 (fun k h => h.elim))
  have R6 := Lib.hid (R5.out.keep f6 (fun h => h))
  have s6 := f6.size
  clear f6 R5 P5 G5 F5
  cases rr with
  | err c =>
    have hO : O = .err c := HO2.out
    subst hO
    simp only at h6
    subst h6
    have hcne : c ≠ 0 := by rcases HRE.out c rfl with rfl | rfl | rfl | rfl <;> decide
    have hc : (c == 0) = false := by simpa using hcne
    have C2 := Lib.hid (refuse_any c)
    rw [if_neg hcne] at C2
    clear HO2 HRE
    go_wp2_with fail
    refine (C2.out _).mono ?_
    rintro e v7 ⟨rfl, rfl⟩
    go_wp2_with fail
    exact ⟨rfl, F6.out, rfl⟩
  | ok l k =>
    have hO : O = .ok n0 n1 n2 l := HO2.out
    subst hO
    obtain ⟨v, rfl, o6⟩ := h6
    obtain ⟨a, cap, rfl, -⟩ := SlA.of_own o6
    have O6 := Lib.hid o6
    have p6 := P6.out
    have g6 : v6.cell? ⟨g, 9, none⟩ = some (.slice none 0 0) := by rw [Lib.cell_of_heap G6.out]; rfl
    have g7 : v6.frozen? ⟨g, 9, none⟩ = false := Lib.frozen_of_heap G6.out 9
    have hne : ∀ q, (Value.slice a l.length cap).ownBlock = some q → q ≠ g := fun q hq => by have := (o6.lt q hq).1; omega
    have f7 := fr_put v6 g 9 (.slice a l.length cap)
    have Z : Hid (ServEnd b g (rrec0 typ ttl) (.ok n0 n1 n2 l) w (.returned (.tuple #[])) (v6.setCell ⟨g, 9, none⟩ (.slice a l.length cap))) := Lib.hid
      ⟨F6.out.trans f7 (fun k h => .inl (.inr h)), rfl, R6.out.keep f7 d2, a, cap, own_base (own_fr o6 f7 (fun q hq => hne q hq)) (by omega), blk_set G6.out 9 (.slice a l.length cap)⟩
    clear o6 f7 hne HO2 HRE O6
    go_wp2_with fail
    go_end0
    exact Z.out

/-- pack.Read of a call that reads -/
def ServOutEnd (g : Nat) (r : RRec) (o : SOut) (w : World) (e : Ending) (w' : World) : Prop :=
  Fr (fun k => k = g) w w' ∧ match o with
  | .err c => e = .panicked [{ v := refused c, recovered := false }]
  | .ok p wt pt l => e = .returned (.tuple #[]) ∧ ∃ a cap, w'.ownsRow w.heap.size 9 1 (.slice a l.length cap) l.length (strVs l) ∧
      w'.heap[g]? = some (.cells (RRec.arr { r with prio := p, weight := wt, port := pt, target := l } a cap) 110 (0, 0))

theorem servRead_any (gp g : Nat) (typ ttl : Int) (d : List UInt8) (W : World) (hp : W.cell? ⟨gp, 0, none⟩ = some (.pointer (some ⟨g, 0, none⟩))) (hg : W.heap[g]? = some (.cells ((rrec0 typ ttl).arr none 0) 110 (0, 0)))
    (d3 : gp ≠ g) (hd : d.length ≤ 100000) :
    Calls Try.prog 53 #[.string ⟨d.toArray⟩, .func (.func 127) #[] #[.pointer (some ⟨gp, 0, none⟩)]] W fun e w' =>
      Fr (fun k => k = g) W w' ∧ match servOut d with
      | .err c => e = .returned (.int .i64 c)
      | .ok p wt pt l => e = .returned (.int .i64 0) ∧ ∃ a cap, w'.ownsRow W.heap.size 9 1 (.slice a l.length cap) l.length (strVs l) ∧
          w'.heap[g]? = some (.cells (RRec.arr { rrec0 typ ttl with prio := p, weight := wt, port := pt, target := l } a cap) 110 (0, 0)) := by
  have l1 := lt_of_cell hp
  simp only at l1
  have l2 : g < W.heap.size := (Array.getElem?_eq_some_iff.1 hg).1
  refine (packReadX_any ⟨d.toArray⟩ 127 #[.pointer (some ⟨gp, 0, none⟩)] W (fun k => k = g)
    (fun x w' => match servOut d with
      | .err c => x = .ref c
      | .ok p wt pt l => x = .ok ⟨#[]⟩ ∧ ∃ a cap, w'.ownsRow (W.heap.size + 4) 9 1 (.slice a l.length cap) l.length (strVs l) ∧
          w'.heap[g]? = some (.cells (RRec.arr { rrec0 typ ttl with prio := p, weight := wt, port := pt, target := l } a cap) 110 (0, 0)))
    (by rw [mk_size]; omega) (fun a w => enters_fn Try.func127 (by kernel_rfl) rfl _ w) (fun k h => by omega) (fun w2 f2 hz2 h2 => ?_)).mono ?_
  · refine (serv1_any (W.heap.size + 1) gp g typ ttl d w2 h2 (f2.cell hp (fun h => h)) (by rw [f2.block g l2 (fun h => h)]; exact hg) (by omega) (by omega) d3 hd).mono ?_
    rintro e w' ⟨f, h⟩
    refine ⟨f.mono (fun k _ h => by rcases h with h | h; left; unfold wS; omega; exact .inr h), ?_⟩
    cases ho : servOut d with
    | err c =>
      rw [ho] at h
      simp only at h
      subst h
      exact ⟨_, .ref c (servOut_ne ho), rfl⟩
    | ok p wt pt l =>
      rw [ho] at h
      obtain ⟨rfl, hr, a, cap, ow, hb⟩ := h
      exact ⟨_, .ok _ hr, rfl, a, cap, own_base ow hz2, hb⟩
  · rintro e w' ⟨w0, x, hG, rfl, f0, hs0, f⟩
    refine ⟨f.mono (fun k hk h => by rcases h with h | h; omega; exact h), ?_⟩
    cases ho : servOut d with
    | err c =>
      rw [ho] at hG
      simp only at hG
      subst hG
      rfl
    | ok p wt pt l =>
      rw [ho] at hG
      obtain ⟨rfl, a, cap, ow, hb⟩ := hG
      refine ⟨rfl, a, cap, ?_, ?_⟩
      · exact own_base (own_fr ow f0 (fun q hq h => by have := (ow.lt q hq).1; omega)) (by omega)
      · rw [f0.block g (by omega) (by omega)]; exact hb

set_option maxHeartbeats 2000000 in
set_option maxRecDepth 100000 in
theorem service_any (g : Nat) (typ ttl : Int) (d : List UInt8) (W : World) (hg : W.heap[g]? = some (.cells ((rrec0 typ ttl).arr none 0) 110 (0, 0))) (hd : d.length ≤ 100000) :
    Calls Try.prog 125 #[.pointer (some ⟨g, 0, none⟩), .string ⟨d.toArray⟩] W (ServOutEnd g (rrec0 typ ttl) (servOut d) W) := by
  have hmf := makeFunc_run
  have hlg : g < W.heap.size := (Array.getElem?_eq_some_iff.1 hg).1
  obtain ⟨w1, hw1⟩ : ∃ w1, w1 = W.alloc (.cells #[.pointer (some ⟨g, 0, none⟩)] 214) := ⟨_, rfl⟩
  have f1 : Gr W w1 := by rw [hw1]; exact (Fr.refl _ _).alloc _
  have C1 := Lib.hid (servRead_any W.heap.size g typ ttl d w1 (by rw [World.cell?, hw1, heap_alloc_if, if_pos rfl]; rfl) (by rw [f1.block g hlg (fun h => h)]; exact hg) (by omega) hd)
  have F1 := Lib.hid f1
  have HW1 := Lib.hid hw1
  have s1 := f1.size
  have HSN := Lib.hid (fun c (h : servOut d = .err c) => servOut_ne h)
  unfold ServOutEnd
  clear f1 hw1 hg
  generalize servOut d = o at *
  go_enter Try.func125, Try.ntmps125
  go_upto_region 1 with fail
  rw [← HW1.out]
  clear HW1
  go_wp2_with fail
  refine C1.out.mono ?_
  rintro e w2 ⟨f2, h2⟩
  have F2 : Hid (Fr (fun k => k = g) W w2) := Lib.hid (Fr.trans (Fr.mono (T := fun k => k = g) F1.out (fun _ _ h => h.elim)) f2 (fun k h => .inl h))
  clear f2 C1 F1
  cases o with
  | err c =>
    simp only at h2
    subst h2
    have hcne := HSN.out c rfl
    have hc : (c == 0) = false := by simpa using hcne
    have C2 := Lib.hid (refuse_any c)
    rw [if_neg hcne] at C2
    clear HSN
    go_wp2_with fail
    refine (C2.out _).mono ?_
    rintro e v7 ⟨rfl, rfl⟩
    go_wp2_with fail
    exact ⟨rfl, F2.out, rfl⟩
  | ok p wt pt l =>
    obtain ⟨rfl, a, cap, ow, hb⟩ := h2
    have Z : Hid (∃ a cap, w2.ownsRow W.heap.size 9 1 (.slice a l.length cap) l.length (strVs l) ∧ w2.heap[g]? = some (.cells (RRec.arr { rrec0 typ ttl with prio := p, weight := wt, port := pt, target := l } a cap) 110 (0, 0))) := Lib.hid ⟨a, cap, own_base ow s1, hb⟩
    clear ow hb HSN
    go_wp2_with fail
    go_end0
    exact ⟨F2.out, rfl, Z.out⟩

/-- what record does -/
def RecordEnd (b : Nat) (o : ROne) (w : World) (e : Ending) (w' : World) : Prop :=
  Fr (fun k => k = b) w w' ∧ match o with
  | .err c => e = .panicked [{ v := refused c, recovered := false }]
  | .ok r rest => RdL w' b rest ∧ ∃ a cap, e = .returned (.agg (r.arr a cap)) ∧ w'.ownsRow w.heap.size 9 1 (.slice a r.target.length cap) r.target.length (strVs r.target)
end
section
open Go.RowKit Go.Proofs

theorem bt_take (u : List UInt8) (n k : Nat) (h : k < n) : bt (u.take n) k = bt u k := by
  unfold bt
  rw [List.getD_eq_getElem?_getD, List.getD_eq_getElem?_getD, List.getElem?_take_of_lt h]
theorem rrecA_take (tl : Int) (u : List UInt8) : rrecA tl (u.take 4) = rrecA tl u := by
  unfold rrecA byAt
  rw [bt_take u 4 0 (by decide), bt_take u 4 1 (by decide), bt_take u 4 2 (by decide), bt_take u 4 3 (by decide)]
theorem addr_put (w : World) (g : Nat) (tl : Int) (d : List UInt8) (hd : d.length = 4) (hg : w.heap[g]? = some (.cells #[.int .u16 1, .int .u32 tl, .int .u8 0, .int .u8 0, .int .u8 0, .int .u8 0, .int .u16 0, .int .u16 0, .int .u16 0, .slice none 0 0] 110 (0, 0))) :
    (w.setCells g 2 ((ByteArray.mk d.toArray).data.toList.map fun x => Value.int .u8 (x.toNat : Int))).heap[g]? = some (.cells ((rrecA tl d).arr none 0) 110 (0, 0)) := by
  match d, hd with
  | [x0, x1, x2, x3], _ =>
    exact blk_set (blk_set (blk_set (blk_set hg 2 (.int .u8 (x0.toNat : Int))) 3 (.int .u8 (x1.toNat : Int))) 4 (.int .u8 (x2.toNat : Int))) 5 (.int .u8 (x3.toNat : Int))
theorem addr_there {w : World} {g : Nat} {x0 x1 x2 x3 x4 x5 x6 x7 x8 x9 : Value} {n : Nat} (hn : n = 4) (hg : w.heap[g]? = some (.cells #[x0, x1, x2, x3, x4, x5, x6, x7, x8, x9] 110 (0, 0))) (j : Nat) (hj : j < n) : (w.cell? ⟨g, 2 + j, none⟩).isSome = true := by
  rw [Lib.cell_of_heap hg]
  have : j = 0 ∨ j = 1 ∨ j = 2 ∨ j = 3 := by omega
  rcases this with rfl | rfl | rfl | rfl <;> rfl
theorem sizeU8 (w : World) : (sizeOf 5).run Try.prog w = .ok 1 w := by
  obtain ⟨i, hi, hs⟩ := Option.map_eq_some_iff.1 Try.infou8
  unfold sizeOf typeInfo
  simp only [Prod.mk.injEq] at hs
  simp [go_sem, hi, hs.2.1]

set_option maxHeartbeats 8000000 in
set_option maxRecDepth 100000 in
theorem record_any (b : Nat) (s : List UInt8) (W : World) (hr : RdL W b s) (hs : s.length ≤ 100000) :
    Calls Try.prog 113 #[.pointer (some ⟨b, 0, none⟩)] W (RecordEnd b (rdRec s) W) := by
  obtain ⟨i0, hi1, hi2, hi3, hi4⟩ := info_parts Try.zeroRRec
  obtain ⟨O, hO⟩ : ∃ O, O = rdRec s := ⟨_, rfl⟩
  rw [← hO]
  unfold rdRec at hO
  have HO := Lib.hid hO
  have hbl : b < W.heap.size := by have := lt_of_cell hr.1; simpa using this
  obtain ⟨w1, hw1⟩ : ∃ w1, w1 = W.alloc (.cells #[.int .u16 0, .int .u32 0, .int .u8 0, .int .u8 0, .int .u8 0, .int .u8 0, .int .u16 0, .int .u16 0, .int .u16 0, .slice none 0 0] 110) := ⟨_, rfl⟩
  have f1 : Gr W w1 := by rw [hw1]; exact (Fr.refl _ _).alloc _
  have Q1 := Lib.hid (show w1.heap[W.heap.size]? = some (.cells #[.int .u16 0, .int .u32 0, .int .u8 0, .int .u8 0, .int .u8 0, .int .u8 0, .int .u16 0, .int .u16 0, .int .u16 0, .slice none 0 0] 110 (0, 0)) by rw [hw1, heap_alloc_if, if_pos rfl])
  have R1 := Lib.hid (hr.keep f1 (fun h => h))
  have F1 := Lib.hid (Fr.mono (T := fun k => k = b) f1 (fun _ _ h => h.elim))
  have s1 : W.heap.size < w1.heap.size := by rw [hw1]; simp
  have HW1 := Lib.hid hw1
  clear hO hr f1 hw1
  go_enter Try.func113, Try.ntmps113
  go_upto_region 1 with fail
  rw [← HW1.out]
  clear HW1
  by_cases l1 : s.length < 2
  · have hO : O = .err 2 := by rw [HO.out, if_pos (by omega)]
    subst hO
    have C := Lib.hid (readRaw_short b 2 s w1 R1.out (by omega) (by omega) 2 rfl)
    go_wp2_with fail
    refine C.out.mono ?_
    rintro e w' ⟨rfl, rfl⟩
    go_wp2_with fail
    exact ⟨rfl, F1.out, rfl⟩
  have C1 := Lib.hid (readRaw_ok b 2 s w1 R1.out (by omega) 2 rfl)
  go_wp2_with fail
  refine C1.out.mono ?_
  rintro e w2 ⟨rfl, r2, f2⟩
  have R2 := Lib.hid r2
  have Q2 := Lib.hid (show w2.heap[W.heap.size]? = some (.cells #[.int .u16 0, .int .u32 0, .int .u8 0, .int .u8 0, .int .u8 0, .int .u8 0, .int .u16 0, .int .u16 0, .int .u16 0, .slice none 0 0] 110 (0, 0)) by rw [f2.block _ (by omega) (by omega)]; exact Q1.out)
  have s2 := f2.size
  have F2 := Lib.hid (F1.out.trans f2 (fun k h => .inl h))
  clear r2 f2 R1 Q1 F1 C1 l1
  by_cases l2 : s.length < 4
  · have hO : O = .err 2 := by rw [HO.out, if_pos (by omega)]
    subst hO
    have C := Lib.hid (readNum_short b 2 _ w2 R2.out (by omega) (by omega) (by rw [List.length_drop]; omega) 2 rfl)
    go_wp2_with fail
    refine C.out.mono ?_
    rintro e w' ⟨rfl, rfl⟩
    go_wp2_with fail
    exact ⟨rfl, F2.out, rfl⟩
  have C2 := Lib.hid (readNum_ok b 2 _ w2 R2.out (by omega) (by omega) (by rw [List.length_drop]; omega) 2 rfl)
  rw [two_heads, List.drop_drop] at C2
  have n0 := numAt_range s 2
  obtain ⟨ty, hty⟩ : ∃ n, n = numAt s 2 := ⟨_, rfl⟩
  rw [← hty] at C2 n0
  have HTY := Lib.hid hty
  clear hty
  go_wp2_with fail
  refine C2.out.mono ?_
  rintro e w3 ⟨rfl, r3, f3⟩
  have R3 := Lib.hid r3
  have Q3 := Lib.hid (show w3.heap[W.heap.size]? = some (.cells #[.int .u16 0, .int .u32 0, .int .u8 0, .int .u8 0, .int .u8 0, .int .u8 0, .int .u16 0, .int .u16 0, .int .u16 0, .slice none 0 0] 110 (0, 0)) by rw [f3.block _ (by omega) (by omega)]; exact Q2.out)
  have s3 := f3.size
  have F3 := Lib.hid (F2.out.trans f3 (fun k h => .inl h))
  clear r3 f3 R2 Q2 F2 C2 l2
  go_wp2_with (refine wpList_fresh (vs := #[.int .u16 ty, .int .u32 0, .int .u8 0, .int .u8 0, .int .u8 0, .int .u8 0, .int .u16 0, .int .u16 0, .int .u16 0, .slice none 0 0]) hi1 hi2 Try.infoRRec (by rfl) (by rw [← Array.all_toList]; rfl) (by rfl) (by rfl) ?_)
  intro w4 f4 b4 l4
  have R4 := Lib.hid (R3.out.keep f4 (fun h => h))
  have Q4 := Lib.hid (show w4.heap[W.heap.size]? = some (.cells #[.int .u16 0, .int .u32 0, .int .u8 0, .int .u8 0, .int .u8 0, .int .u8 0, .int .u16 0, .int .u16 0, .int .u16 0, .slice none 0 0] 110 (0, 0)) by rw [f4.block _ (by omega) (fun h => h)]; exact Q3.out)
  have F4 : Hid (Fr (fun k => k = b) W w4) := Lib.hid (F3.out.trans f4 (fun k h => h.elim))
  have s4 := f4.size
  obtain ⟨g, hg⟩ : ∃ g, g = w3.heap.size := ⟨_, rfl⟩
  rw [← hg] at b4 l4 ⊢
  have X4 := Lib.hid b4
  have hgb : b < g ∧ W.heap.size < g := by omega
  obtain ⟨hgb1, hgb2⟩ := hgb
  clear b4 f4 R3 Q3 F3 hg s3 s4
  have l4g := l4
  by_cases m4 : s.length < 6
  · have hO : O = .err 2 := by rw [HO.out, if_pos (by omega)]
    subst hO
    have C := Lib.hid (readRaw_short b 2 _ w4 R4.out (by rw [List.length_drop]; omega) (by omega) 2 rfl)
    go_wp2_with fail
    refine C.out.mono ?_
    rintro e w' ⟨rfl, rfl⟩
    go_wp2_with fail
    exact ⟨rfl, F4.out, rfl⟩
  have C4 := Lib.hid (readRaw_ok b 2 _ w4 R4.out (by rw [List.length_drop]; omega) 2 rfl)
  rw [List.drop_drop] at C4
  go_wp2_with fail
  refine C4.out.mono ?_
  rintro e w5 ⟨rfl, r5, f5⟩
  have R5 := Lib.hid r5
  have s5 := f5.size
  have Q5 := Lib.hid (show w5.heap[W.heap.size]? = some (.cells #[.int .u16 0, .int .u32 0, .int .u8 0, .int .u8 0, .int .u8 0, .int .u8 0, .int .u16 0, .int .u16 0, .int .u16 0, .slice none 0 0] 110 (0, 0)) by rw [f5.block _ (by omega) (by omega)]; exact Q4.out)
  have X5 := Lib.hid (show w5.heap[g]? = some (.cells #[.int .u16 ty, .int .u32 0, .int .u8 0, .int .u8 0, .int .u8 0, .int .u8 0, .int .u16 0, .int .u16 0, .int .u16 0, .slice none 0 0] 110 (0, 0)) by rw [f5.block _ (by omega) (by omega)]; exact X4.out)
  have l5g : g < w5.heap.size := by omega
  have F5 := Lib.hid (F4.out.trans f5 (fun k h => .inl h))
  clear r5 f5 R4 Q4 F4 C4 X4
  by_cases m5 : s.length < 10
  · have hO : O = .err 2 := by rw [HO.out, if_pos (by omega)]
    subst hO
    have C := Lib.hid (readNum_short b 4 _ w5 R5.out (by omega) (by omega) (by rw [List.length_drop]; omega) 4 rfl)
    go_wp2_with fail
    refine C.out.mono ?_
    rintro e w' ⟨rfl, rfl⟩
    go_wp2_with fail
    exact ⟨rfl, F5.out, rfl⟩
  have C5 := Lib.hid (readNum_ok b 4 _ w5 R5.out (by omega) (by omega) (by rw [List.length_drop]; omega) 4 rfl)
  rw [show ((getNum ((s.drop (2 + 2 + 2)).take 4) : Nat) : Int) = num4 s 6 from rfl, List.drop_drop] at C5
  have n4 := num4_range s 6
  obtain ⟨tl, htl⟩ : ∃ n, n = num4 s 6 := ⟨_, rfl⟩
  rw [← htl] at C5 n4
  have HTL := Lib.hid htl
  clear htl
  go_wp2_with fail
  refine C5.out.mono ?_
  rintro e w6 ⟨rfl, r6, f6⟩
  have R6 := Lib.hid r6
  have s6 := f6.size
  have Q6 := Lib.hid (show w6.heap[W.heap.size]? = some (.cells #[.int .u16 0, .int .u32 0, .int .u8 0, .int .u8 0, .int .u8 0, .int .u8 0, .int .u16 0, .int .u16 0, .int .u16 0, .slice none 0 0] 110 (0, 0)) by rw [f6.block _ (by omega) (by omega)]; exact Q5.out)
  have X6 := Lib.hid (show w6.heap[g]? = some (.cells #[.int .u16 ty, .int .u32 0, .int .u8 0, .int .u8 0, .int .u8 0, .int .u8 0, .int .u16 0, .int .u16 0, .int .u16 0, .slice none 0 0] 110 (0, 0)) by rw [f6.block _ (by omega) (by omega)]; exact X5.out)
  have l6g : g < w6.heap.size := by omega
  have F6 := Lib.hid (F5.out.trans f6 (fun k h => .inl h))
  clear r6 f6 R5 Q5 F5 C5 X5
  have c1 : w6.cell? ⟨g, 1, none⟩ = some (.int .u32 0) := by rw [Lib.cell_of_heap X6.out]; rfl
  have c2 : w6.frozen? ⟨g, 1, none⟩ = false := Lib.frozen_of_heap X6.out 1
  go_upto_region 5 with fail
  obtain ⟨w7, hw7⟩ : ∃ v, v = w6.setCell ⟨g, 1, none⟩ (.int .u32 tl) := ⟨_, rfl⟩
  rw [← hw7]
  have f7 : Fr (fun k => k = g) w6 w7 := by rw [hw7]; exact fr_put _ _ _ _
  have s7 := f7.size
  have X7 := Lib.hid (show w7.heap[g]? = some (.cells #[.int .u16 ty, .int .u32 tl, .int .u8 0, .int .u8 0, .int .u8 0, .int .u8 0, .int .u16 0, .int .u16 0, .int .u16 0, .slice none 0 0] 110 (0, 0)) by rw [hw7]; exact blk_set X6.out 1 (.int .u32 tl))
  have R7 := Lib.hid (R6.out.keep f7 (by omega))
  have Q7 := Lib.hid (show w7.heap[W.heap.size]? = some (.cells #[.int .u16 0, .int .u32 0, .int .u8 0, .int .u8 0, .int .u8 0, .int .u8 0, .int .u16 0, .int .u16 0, .int .u16 0, .slice none 0 0] 110 (0, 0)) by rw [f7.block _ (by omega) (by omega)]; exact Q6.out)
  have F7 := Lib.hid (F6.out.trans f7 (fun k h => .inr (by omega)))
  have l7g : g < w7.heap.size := by omega
  clear c1 c2 f7 hw7 R6 Q6 X6 F6
  by_cases m7 : s.length < 12
  · have hO : O = .err 2 := by rw [HO.out, if_pos (by omega)]
    subst hO
    have C := Lib.hid (readNum_short b 2 _ w7 R7.out (by omega) (by omega) (by rw [List.length_drop]; omega) 2 rfl)
    go_wp2_with fail
    refine C.out.mono ?_
    rintro e w' ⟨rfl, rfl⟩
    go_wp2_with fail
    exact ⟨rfl, F7.out, rfl⟩
  have C7 := Lib.hid (readNum_ok b 2 _ w7 R7.out (by omega) (by omega) (by rw [List.length_drop]; omega) 2 rfl)
  rw [show ((getNum ((s.drop (2 + 2 + 2 + 4)).take 2) : Nat) : Int) = numAt s 10 from rfl, List.drop_drop] at C7
  have n5 := numAt_range s 10
  obtain ⟨n, hn⟩ : ∃ n : Nat, numAt s 10 = (n : Int) := ⟨(numAt s 10).toNat, by omega⟩
  rw [hn] at C7 n5
  have HN := Lib.hid hn
  clear hn
  obtain ⟨n50, n51⟩ := n5
  go_wp2_with fail
  refine C7.out.mono ?_
  rintro e w8 ⟨rfl, r8, f8⟩
  have R8 := Lib.hid r8
  have s8 := f8.size
  have Q8 := Lib.hid (show w8.heap[W.heap.size]? = some (.cells #[.int .u16 0, .int .u32 0, .int .u8 0, .int .u8 0, .int .u8 0, .int .u8 0, .int .u16 0, .int .u16 0, .int .u16 0, .slice none 0 0] 110 (0, 0)) by rw [f8.block _ (by omega) (by omega)]; exact Q7.out)
  have X8 := Lib.hid (show w8.heap[g]? = some (.cells #[.int .u16 ty, .int .u32 tl, .int .u8 0, .int .u8 0, .int .u8 0, .int .u8 0, .int .u16 0, .int .u16 0, .int .u16 0, .slice none 0 0] 110 (0, 0)) by rw [f8.block _ (by omega) (by omega)]; exact X7.out)
  have l8g : g < w8.heap.size := by omega
  have F8 := Lib.hid (F7.out.trans f8 (fun k h => .inl h))
  clear r8 f8 R7 Q7 F7 C7 X7
  by_cases m8 : s.length < 12 + n
  · have hO : O = .err 2 := by rw [HO.out, if_neg (by omega), if_pos (by rw [HN.out]; omega)]
    subst hO
    have C := Lib.hid (readRaw_short b n _ w8 R8.out (by rw [List.length_drop]; omega) (by omega) n rfl)
    go_wp2_with fail
    refine C.out.mono ?_
    rintro e w' ⟨rfl, rfl⟩
    go_wp2_with fail
    exact ⟨rfl, F8.out, rfl⟩
  have C8 := Lib.hid (readRaw_ok b n _ w8 R8.out (by rw [List.length_drop]; omega) n rfl)
  rw [List.drop_drop] at C8
  go_wp2_with fail
  refine C8.out.mono ?_
  rintro e w9 ⟨rfl, r9, f9⟩
  have R9 := Lib.hid r9
  have s9 := f9.size
  have Q9 := Lib.hid (show w9.heap[W.heap.size]? = some (.cells #[.int .u16 0, .int .u32 0, .int .u8 0, .int .u8 0, .int .u8 0, .int .u8 0, .int .u16 0, .int .u16 0, .int .u16 0, .slice none 0 0] 110 (0, 0)) by rw [f9.block _ (by omega) (by omega)]; exact Q8.out)
  have X9 := Lib.hid (show w9.heap[g]? = some (.cells #[.int .u16 ty, .int .u32 tl, .int .u8 0, .int .u8 0, .int .u8 0, .int .u8 0, .int .u16 0, .int .u16 0, .int .u16 0, .slice none 0 0] 110 (0, 0)) by rw [f9.block _ (by omega) (by omega)]; exact X8.out)
  have l9g : g < w9.heap.size := by omega
  have F9 := Lib.hid (F8.out.trans f9 (fun k h => .inl h))
  clear r9 f9 R8 Q8 F8 C8 X8
  have HO2 : Hid (O = if ty = 1 ∧ n = 4 then .ok (rrecA (num4 s 6) (s.drop 12)) (s.drop 16) else if ty = 33 then match servOut ((s.drop 12).take n) with | .err c => .err c | .ok p w t l => .ok ⟨33, num4 s 6, 0, 0, 0, 0, p, w, t, l⟩ (s.drop (12 + n)) else .err 4) := Lib.hid (by rw [HO.out, if_neg m7, HN.out, if_neg (by omega), ← HTY.out]; rfl)
  clear HO HN HTY
  rw [show 2 + 2 + 2 + 4 + 2 = 12 from rfl] at R9 ⊢
  rw [← HTL.out] at HO2
  clear HTL
  obtain ⟨d, hd⟩ : ∃ d, d = (s.drop 12).take n := ⟨_, rfl⟩
  have hdl : d.length = n := by rw [hd, List.length_take, List.length_drop]; omega
  rw [← hd]
  rw [← hd] at HO2
  have HD := Lib.hid hd
  clear hd
  have zd : (ByteArray.mk d.toArray).size = n := by rw [mk_size, hdl]
  have c0 : w9.cell? ⟨g, 0, none⟩ = some (.int .u16 ty) := by rw [Lib.cell_of_heap X9.out]; rfl
  by_cases k1 : ty = 1
  · by_cases k2 : n = 4
    · subst k1 k2
      have hO := HO2.out
      rw [if_pos ⟨rfl, rfl⟩] at hO
      have HO3 := Lib.hid hO
      clear hO HO2
      have hr := Go.run_copy_string (P := Try.prog) w9 47 9 3 5 g 2 4 4 ⟨d.toArray⟩ Try.underlying47 sizeU8 (by omega) (fun j hj => addr_there zd X9.out j hj) (fun j _ => Lib.frozen_of_heap X9.out _)
      obtain ⟨w10, hw10⟩ : ∃ v, v = w9.setCells g 2 ((ByteArray.mk d.toArray).data.toList.map fun x => Value.int .u8 (x.toNat : Int)) := ⟨_, rfl⟩
      rw [← hw10, zd] at hr
      have f10 : Fr (fun k => k = g) w9 w10 := by rw [hw10]; exact fr_setCells _ _ _ _
      have X10 := Lib.hid (show w10.heap[g]? = some (.cells ((rrecA tl d).arr none 0) 110 (0, 0)) by rw [hw10]; exact addr_put w9 g tl d hdl X9.out)
      have Q10 := Lib.hid (show w10.heap[W.heap.size]? = some (.cells #[.int .u16 0, .int .u32 0, .int .u8 0, .int .u8 0, .int .u8 0, .int .u8 0, .int .u16 0, .int .u16 0, .int .u16 0, .slice none 0 0] 110 (0, 0)) by rw [f10.block _ (by omega) (by omega)]; exact Q9.out)
      have R10 := Lib.hid (R9.out.keep f10 (by omega))
      have F10 := Lib.hid (F9.out.trans f10 (fun k h => .inr (by omega)))
      have s10 := f10.size
      clear hw10 f10 X9 Q9 R9 F9
      go_upto_region 11 with fail
      have Z0 : rrecA tl d = rrecA tl (s.drop 12) := by rw [HD.out]; exact rrecA_take tl _
      refine wp_region_lit ?_
      refine wpList_load_rrec (r := (rrecA tl d)) (a := none) (c := 0) X10.out (by rfl) _ (by rfl) (by rfl) ?_
      refine wpList_store_mid (by rfl) 110 _ _ (by rfl) W.heap.size 0 (RRec.arr (rrecA tl d) none 0) (by rfl) (by rfl) (blk_there Q10.out _ (Nat.le_refl 10)) Try.infoRRec (by rw [← Array.all_toList]; rfl) ?_
      obtain ⟨wy, hwy⟩ : ∃ v, v = w10.setCells W.heap.size 0 (RRec.arr (rrecA tl d) none 0).toList := ⟨_, rfl⟩
      rw [← hwy]
      have fy : Fr (fun k => k = W.heap.size) w10 wy := by rw [hwy]; exact fr_setCells _ _ _ _
      have by1 : wy.heap[W.heap.size]? = some (.cells (RRec.arr (rrecA tl d) none 0) 110 (0, 0)) := by rw [hwy]; exact blk_all Q10.out _ rfl
      have L6 := Lib.hid (load_rrec _ _ _ by1)
      have A6 : Hid ((asAddr (.pointer (some ⟨W.heap.size, 0, none⟩))).run Try.prog wy = .ok ⟨W.heap.size, 0, none⟩ wy) := Lib.hid (by simp [go_sem])
      have RY := Lib.hid (R10.out.keep fy (by omega))
      have FY : Hid (Fr (fun k => k = b) W wy) := Lib.hid (F10.out.trans fy (fun k h => .inr (by omega)))
      have OY : Hid (wy.ownsRow W.heap.size 9 1 (.slice none (rrecA tl d).target.length 0) (rrecA tl d).target.length (strVs (rrecA tl d).target)) := Lib.hid (World.ownsRow_nil _ _ _ _)
      clear by1 fy hwy hr
      go_wp2_with fail
      refine bodyPost_ret (v := .agg (RRec.arr (rrecA tl d) none 0)) (by simp [results, Try.results113, Act.put, Sem.run_bind, Result.andThen_ok, L6.out, A6.out]) rfl ?_
      rw [HO3.out, ← Z0]
      exact ⟨FY.out, RY.out, none, 0, rfl, OY.out⟩
    · have hO : O = .err 4 := by rw [HO2.out, if_neg (by omega), if_neg (by omega)]
      subst hO
      subst k1
      have k3 : (d.length : Int) ≠ 4 := by omega
      have k4 : ((n : Int) == 4) = false := by simp; omega
      clear HO2 HD k3
      go_wp2_with fail
      refine (refuse_any 4 _).mono ?_
      rintro e v7 ⟨rfl, rfl⟩
      go_wp2_with fail
      exact ⟨rfl, F9.out, rfl⟩
  · have k2 : (ty == 1) = false := by simpa using k1
    by_cases k3 : ty = 33
    · subst k3
      have hO : O = match servOut d with | .err c => .err c | .ok p w t l => .ok ⟨33, tl, 0, 0, 0, 0, p, w, t, l⟩ (s.drop (12 + n)) := by rw [HO2.out, if_neg (by omega), if_pos rfl]
      have HO3 := Lib.hid hO
      have CS := Lib.hid (service_any g 33 tl d w9 X9.out (by omega))
      clear hO HO2 HD k1
      generalize servOut d = so at *
      go_wp2_with fail
      refine CS.out.mono ?_
      rintro e w10 ⟨f10, h10⟩
      have F10 : Hid (Fr (fun k => k = b) W w10) := Lib.hid (F9.out.trans f10 (fun k h => .inr (by omega)))
      have R10 := Lib.hid (R9.out.keep f10 (by omega))
      have Q10 := Lib.hid (show w10.heap[W.heap.size]? = some (.cells #[.int .u16 0, .int .u32 0, .int .u8 0, .int .u8 0, .int .u8 0, .int .u8 0, .int .u16 0, .int .u16 0, .int .u16 0, .slice none 0 0] 110 (0, 0)) by rw [f10.block _ (by omega) (by omega)]; exact Q9.out)
      have s10 := f10.size
      clear f10 R9 Q9 F9 X9 CS c0
      cases so with
      | err c =>
        have hO : O = .err c := HO3.out
        subst hO
        simp only at h10
        subst h10
        clear HO3
        go_wp2_with fail
        exact ⟨rfl, F10.out, rfl⟩
      | ok p wt pt l =>
        have hO : O = .ok ⟨33, tl, 0, 0, 0, 0, p, wt, pt, l⟩ (s.drop (12 + n)) := HO3.out
        subst hO
        obtain ⟨rfl, a, cap, ow, hb⟩ := h10
        have X10 := Lib.hid (show w10.heap[g]? = some (.cells (RRec.arr ⟨33, tl, 0, 0, 0, 0, p, wt, pt, l⟩ a cap) 110 (0, 0)) from hb)
        have O10 := Lib.hid ow
        clear hb ow HO3
        go_upto_region 11 with fail
        refine wp_region_lit ?_
        refine wpList_load_rrec (r := (⟨33, tl, 0, 0, 0, 0, p, wt, pt, l⟩ : RRec)) (a := a) (c := cap) X10.out (by rfl) _ (by rfl) (by rfl) ?_
        refine wpList_store_mid (by rfl) 110 _ _ (by rfl) W.heap.size 0 (RRec.arr (⟨33, tl, 0, 0, 0, 0, p, wt, pt, l⟩ : RRec) a cap) (by rfl) (by rfl) (blk_there Q10.out _ (Nat.le_refl 10)) Try.infoRRec (by rw [← Array.all_toList]; rfl) ?_
        obtain ⟨wy, hwy⟩ : ∃ v, v = w10.setCells W.heap.size 0 (RRec.arr (⟨33, tl, 0, 0, 0, 0, p, wt, pt, l⟩ : RRec) a cap).toList := ⟨_, rfl⟩
        rw [← hwy]
        have fy : Fr (fun k => k = W.heap.size) w10 wy := by rw [hwy]; exact fr_setCells _ _ _ _
        have by1 : wy.heap[W.heap.size]? = some (.cells (RRec.arr (⟨33, tl, 0, 0, 0, 0, p, wt, pt, l⟩ : RRec) a cap) 110 (0, 0)) := by rw [hwy]; exact blk_all Q10.out _ rfl
        have L6 := Lib.hid (load_rrec _ _ _ by1)
        have A6 : Hid ((asAddr (.pointer (some ⟨W.heap.size, 0, none⟩))).run Try.prog wy = .ok ⟨W.heap.size, 0, none⟩ wy) := Lib.hid (by simp [go_sem])
        have RY := Lib.hid (R10.out.keep fy (by omega))
        have FY : Hid (Fr (fun k => k = b) W wy) := Lib.hid (F10.out.trans fy (fun k h => .inr (by omega)))
        have OY := Lib.hid (own_base (own_fr O10.out fy (fun q hq h => by have := (O10.out.lt q hq).1; omega)) (show W.heap.size ≤ w9.heap.size by omega))
        clear by1 fy hwy
        go_wp2_with fail
        refine bodyPost_ret (v := .agg (RRec.arr (⟨33, tl, 0, 0, 0, 0, p, wt, pt, l⟩ : RRec) a cap)) (by simp [results, Try.results113, Act.put, Sem.run_bind, Result.andThen_ok, L6.out, A6.out]) rfl ?_
        exact ⟨FY.out, RY.out, a, cap, rfl, OY.out⟩
    · have k4 : (ty == 33) = false := by simpa using k3
      have hO : O = .err 4 := by rw [HO2.out, if_neg (by omega), if_neg k3]
      subst hO
      clear HO2 HD k1 k3
      go_wp2_with fail
      refine (refuse_any 4 _).mono ?_
      rintro e v7 ⟨rfl, rfl⟩
      go_wp2_with fail
      exact ⟨rfl, F9.out, rfl⟩
end
end Go.Proofs.Ytkclgemkeifbaaa
