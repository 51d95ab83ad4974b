/-
  The walk of NodesetOrder.
-/
import Derived.Test.YtoniebocphjmgaaSetS
import Derived.Deep.CutBlock
import Derived.Deep.CutRange
namespace Go.Proofs.Ytoniebocphjmgaa
open Go.RowKit Go.Proofs

def nval (x : Int) : Int := 1 + x % 65535
def valAt (l : List Int) (j : Nat) : Int := nval (l.getD j 0)
def Mem (g : Nat → Int) (i : Nat) (la : List Int) : Prop := ∀ x, x ∈ la ↔ ∃ j, j < i ∧ x = g j

theorem add_room {la : List Int} {v : Int} (h1 : 1 ≤ v) (h2 : v ≤ 65535) (hl : la.length < 64) : sAddOk la 64 v = true ∧ (∀ x, x ∈ sAdd la 64 v ↔ x = v ∨ x ∈ la) ∧ (sAdd la 64 v).length ≤ la.length + 1 := by
  unfold sAddOk sAdd
  by_cases hh : has la v = true
  · rw [if_pos hh, hh]
    have hm := (has_iff _ _).1 hh
    refine ⟨rfl, fun x => ⟨.inr, fun h => ?_⟩, by omega⟩
    rcases h with rfl | h
    · exact hm
    · exact h
  · rw [if_neg hh, if_pos ⟨h1, h2, by omega⟩, decide_eq_true h1, decide_eq_true h2, decide_eq_true (show (la.length : Int) < 64 by omega)]
    exact ⟨by simp, fun x => ins_mem la v x, by rw [ins_length]; omega⟩
theorem Mem.add {g : Nat → Int} {i : Nat} {la : List Int} (h : Mem g i la) {v : Int} (hv : v = g i) {lb : List Int} (hb : ∀ x, x ∈ lb ↔ x = v ∨ x ∈ la) : Mem g (i + 1) lb := by
  intro x
  rw [hb, h x]
  constructor
  · rintro (rfl | ⟨j, hj, rfl⟩)
    · exact ⟨i, by omega, hv⟩
    · exact ⟨j, by omega, rfl⟩
  · rintro ⟨j, hj, rfl⟩
    by_cases e : j = i
    · subst e; exact .inl hv.symm
    · exact .inr ⟨j, by omega, rfl⟩
theorem up_eq {la lb : List Int} (ha : la.Pairwise (· < ·)) (hb : lb.Pairwise (· < ·)) (h : ∀ x, x ∈ la ↔ x ∈ lb) : la = lb := by
  have hp : la.Perm lb := (List.perm_ext_iff_of_nodup (ha.imp (fun h => by omega)) (hb.imp (fun h => by omega))).2 h
  exact hp.eq_of_pairwise (le := (· ≤ ·)) (fun a b _ _ => Int.le_antisymm) (ha.imp (fun h => Int.le_of_lt h)) (hb.imp (fun h => Int.le_of_lt h))

theorem wrap_in {x : Int} (h1 : -9223372036854775808 ≤ x) (h2 : x ≤ 9223372036854775807) : wrap64 x = x := by unfold wrap64; omega
theorem nval_walk {x : Int} (h : 0 ≤ x ∧ x < 65536) : wrap64 (1 + x.tmod 65535) = nval x ∧ 1 ≤ nval x ∧ nval x ≤ 65535 := by
  have e : x.tmod 65535 = x % 65535 := Int.tmod_eq_emod_of_nonneg h.1
  unfold nval
  rw [e, wrap_in (by omega) (by omega)]
  omega
theorem rot (n : Nat) (h0 : 0 < n) (h1 : n ≤ 60) (turn : Int) (i : Nat) (hi : i < n) :
    ∃ k : Nat, (wrap64 (i + (wrap64 (turn.tmod n + n)).tmod n)).tmod n = k ∧ k < n ∧ k = (i + (((turn.tmod n) + n).tmod n).toNat) % n := by
  have a1 : turn.tmod n < n := Int.tmod_lt_of_pos _ (by omega)
  have a2 : -(n : Int) < turn.tmod n := by
    rcases Int.le_total 0 turn with h | h
    · have := Int.tmod_nonneg (n : Int) h; omega
    · have h3 := Int.tmod_lt_of_pos (-turn) (show (0 : Int) < n by omega)
      rw [Int.neg_tmod] at h3; omega
  generalize turn.tmod n = z at *
  rw [wrap_in (x := z + n) (by omega) (by omega)]
  have b1 : (z + n).tmod n < n := Int.tmod_lt_of_pos _ (by omega)
  have b2 : 0 ≤ (z + n).tmod n := Int.tmod_nonneg _ (by omega)
  generalize (z + n).tmod n = y at *
  rw [wrap_in (x := i + y) (by omega) (by omega)]
  refine ⟨(i + y.toNat) % n, ?_, Nat.mod_lt _ h0, rfl⟩
  rw [Int.tmod_eq_emod_of_nonneg (by omega)]
  rw [show ((i : Int) + y) = ((i + y.toNat : Nat) : Int) by omega]
  exact (Int.natCast_emod _ _).symm

theorem rot_back (n r j : Nat) (hj : j < n) : ∃ j', j' < n ∧ (j' + r) % n = j := by
  refine ⟨(j + (n - r % n)) % n, Nat.mod_lt _ (by omega), ?_⟩
  rw [Nat.mod_add_mod]
  have h1 := Nat.div_add_mod r n
  have h2 := Nat.mod_lt r (show 0 < n by omega)
  rw [show j + (n - r % n) + r = j + n * (r / n + 1) by rw [Nat.mul_add]; omega]
  rw [Nat.add_mul_mod_self_left]; exact Nat.mod_eq_of_lt hj
theorem rot_mem (l : List Int) (r : Nat) (x : Int) : (∃ j, j < l.length ∧ x = valAt l j) ↔ ∃ j, j < l.length ∧ x = (fun j => valAt l ((j + r) % l.length)) j := by
  constructor
  · rintro ⟨j, hj, rfl⟩
    obtain ⟨j', h1, h2⟩ := rot_back l.length r j hj
    exact ⟨j', h1, by show _ = valAt l ((j' + r) % l.length); rw [h2]⟩
  · rintro ⟨j, hj, rfl⟩
    exact ⟨(j + r) % l.length, Nat.mod_lt _ (by omega), rfl⟩
theorem but_nil (l : List Int) : but l [] = l := by
  unfold but kept; rw [List.filter_eq_self]; intro x _; simp [has]
theorem but_self (l : List Int) : but l l = [] := by
  unfold but kept; rw [List.filter_eq_nil_iff]; intro x hx; simp [(has_iff l x).2 hx]

theorem add_drop {la : List Int} {n : Int} (hg : Good la 64) (hl : la.length ≤ 60) (hn : has la n = false) :
    sDrop (sAdd la 64 n) n = la ∧ has (sAdd la 64 n) n = sAddOk la 64 n ∧ sAddOk la 64 n = (decide (1 ≤ n) && decide (n ≤ 65535)) := by
  have h3 : sAddOk la 64 n = (decide (1 ≤ n) && decide (n ≤ 65535)) := by
    unfold sAddOk
    rw [hn, decide_eq_true (show (la.length : Int) < 64 by omega)]; simp
  have hm : n ∉ la := (has_no _ _).1 hn
  refine ⟨?_, ?_, h3⟩
  · have hu := (hg.add n).up
    refine up_eq (by rw [sDrop_eq hu]; exact hu.filter _) hg.up (fun x => ?_)
    rw [sDrop_eq hu, List.mem_filter]
    unfold sAdd
    rw [if_neg (by rw [hn]; decide)]
    split
    · rw [ins_mem]
      constructor
      · rintro ⟨h1 | h1, h2⟩
        · simp [h1] at h2
        · exact h1
      · intro h1
        refine ⟨.inr h1, ?_⟩
        have : x ≠ n := fun e => hm (e ▸ h1)
        simpa using this
    · constructor
      · exact fun h => h.1
      · intro h1
        refine ⟨h1, ?_⟩
        have : x ≠ n := fun e => hm (e ▸ h1)
        simpa using this
  · rw [h3]
    unfold sAdd
    rw [if_neg (by rw [hn]; decide)]
    by_cases h : 1 ≤ n ∧ n ≤ 65535 ∧ (la.length : Int) < 64
    · rw [if_pos h, decide_eq_true h.1, decide_eq_true h.2.1]
      rw [(has_iff _ _).2 ((ins_mem la n n).2 (.inl rfl))]; rfl
    · rw [if_neg h, hn]
      by_cases h1 : 1 ≤ n
      · rw [decide_eq_true h1, decide_eq_false (fun h2 => h ⟨h1, h2, by omega⟩)]; rfl
      · rw [decide_eq_false h1]; rfl

/-- the two sets ahead of a round -/
structure OSt (W : World) (kA kB : Nat) (f g : Nat → Int) (i : Nat) (w : World) (la lb : List Int) (aa : Option Addr) (ca : Nat) (ab : Option Addr) (cb : Nat) : Prop where
  ba : Box w kA (.slice aa la.length ca) (.int .i64 64)
  bb : Box w kB (.slice ab lb.length cb) (.int .i64 64)
  sa : SlA w aa la.length ca (ints la)
  sb : SlA w ab lb.length cb (ints lb)
  na : ∀ p, aa = some p → p.block ≠ kA ∧ p.block ≠ kB
  nb : ∀ p, ab = some p → p.block ≠ kA ∧ p.block ≠ kB
  ga : Good la 64
  gb : Good lb 64
  na1 : la.length ≤ i
  nb1 : lb.length ≤ i
  ma : Mem f i la
  mb : Mem g i lb
  ea : aa = none ∨ la ≠ []
  eb : ab = none ∨ lb ≠ []
  fr : Gr W w

theorem lt_of_ne {w : World} {a : Option Addr} {n cap : Nat} {l : List Int} (h : SlA w a n cap (ints l)) (he : a = none ∨ l ≠ []) (p : Addr) (hp : a = some p) : p.block < w.heap.size := by
  rcases he with rfl | he
  · cases hp
  · obtain ⟨b, o, h1, h2⟩ := h.lt (by simpa [ints] using he)
    rw [h1] at hp; cases hp; exact h2
theorem Mem.ne {g : Nat → Int} {i : Nat} {la : List Int} (h : Mem g (i + 1) la) : la ≠ [] := by
  rintro rfl
  have := (h (g i)).2 ⟨i, by omega, rfl⟩
  cases this

structure OSt1 (f : Nat → Int) (i : Nat) (la lb : List Int) : Prop where
  g : Good lb 64
  n : lb.length ≤ i + 1
  m : Mem f (i + 1) lb

theorem round_end {W : World} {kA : Nat} {f g : Nat → Int} {i : Nat} {la lb la1 lb1 : List Int} {ax ay : Option Addr} {cx cy : Nat} {w : World} {x y x' y' : Value} (hf : Gr W w) (ba : Box w kA x y) (bb : Box w (kA + 1) x' y') (sa : SlA w ax la1.length cx (ints la1)) (sb : SlA w ay lb1.length cy (ints lb1))
    (na : ∀ p, ax = some p → p.block ≠ kA ∧ p.block ≠ kA + 1) (nb : ∀ p, ay = some p → p.block ≠ kA ∧ p.block ≠ kA + 1) (m1 : OSt1 f i la la1) (m2 : OSt1 g i lb lb1) (hW : W.heap.size ≤ kA) :
    OSt W kA (kA + 1) f g (i + 1) ((((w.setCell ⟨kA, 0, none⟩ (.slice ax la1.length cx)).setCell ⟨kA, 1, none⟩ (.int .i64 64)).setCell ⟨kA + 1, 0, none⟩ (.slice ay lb1.length cy)).setCell ⟨kA + 1, 1, none⟩ (.int .i64 64)).drew la1 lb1 ax cx ay cy := by
  have f1 := fr_set w kA (.slice ax la1.length cx) (.int .i64 64)
  have b1 := ba.set (.slice ax la1.length cx) (.int .i64 64)
  have c1 := bb.keep f1 (by show ¬ (kA + 1 = kA); omega)
  generalize (w.setCell ⟨kA, 0, none⟩ (.slice ax la1.length cx)).setCell ⟨kA, 1, none⟩ (.int .i64 64) = w1 at *
  have f2 := fr_set w1 (kA + 1) (.slice ay lb1.length cy) (.int .i64 64)
  have b2 := b1.keep f2 (by show ¬ (kA = kA + 1); omega)
  have c2 := c1.set (.slice ay lb1.length cy) (.int .i64 64)
  generalize (w1.setCell ⟨kA + 1, 0, none⟩ (.slice ay lb1.length cy)).setCell ⟨kA + 1, 1, none⟩ (.int .i64 64) = w2 at *
  exact {
    ba := b2
    bb := c2
    sa := ((sa.keep f1 (fun p hp => (na p hp).1)).keep f2 (fun p hp => (na p hp).2)).drewN 1
    sb := ((sb.keep f1 (fun p hp => (nb p hp).1)).keep f2 (fun p hp => (nb p hp).2)).drewN 1
    na := na
    nb := nb
    ga := m1.g
    gb := m2.g
    na1 := m1.n
    nb1 := m2.n
    ma := m1.m
    mb := m2.m
    ea := .inr m1.m.ne
    eb := .inr m2.m.ne
    fr := ((Fr.trans (Fr.trans hf f1 (fun k hk => .inr (by have : k = kA := hk; omega))) f2 (fun k hk => .inr (by have : k = kA + 1 := hk; omega)))).drew }

set_option maxHeartbeats 4000000 in
set_option maxRecDepth 100000 in
theorem nodesetOrder_walk (a : Option Addr) (cap : Nat) (l : List Int) (turn n : Int) (W : World) (hl : SlA W a l.length cap (l.map (Value.int .u16))) (hr : ∀ x ∈ l, 0 ≤ x ∧ x < 65536) :
    Calls Try.prog 12 #[.slice a l.length cap, .int .i64 turn, .int .i64 n] W fun e w' => e = .returned (.bool true) ∧ Gr W w' := by
  obtain ⟨l', hm1, hl', hl'2, hite, hmin⟩ := cut_list (Value.int .u16) W a cap l 60 60 rfl hl
  have hr' : ∀ x ∈ l', 0 ≤ x ∧ x < 65536 := fun x hx => hr x (List.mem_of_mem_take (hl' ▸ hx))
  have hcap := hl.le
  have hcm := hl.max
  have hll : l'.length ≤ l.length := by rw [hl']; simp; omega
  have h64 : min (max (64 : Int) 0) 64 = 64 := by decide
  have H64 := Lib.hid h64
  have HL := Lib.hid hl'2
  have HR := Lib.hid hr'
  clear hl' hl'2 hl hr hr' h64
  go_enter Try.func12, Try.ntmps12
  go_wp2_with fail
  refine (speaks03_any W).mono ?_
  rintro e w1 ⟨rfl, f1⟩
  have F1 := Lib.hid f1; clear f1
  go_wp2_with fail
  refine (setNew_any 64 _).mono ?_
  rintro e w2 ⟨rfl, f2⟩
  rw [H64.out]
  have F2 := Lib.hid (F1.out.trans f2); clear f2
  go_wp2_with fail
  refine (setNew_any 64 _).mono ?_
  rintro e w3 ⟨rfl, f3⟩
  rw [H64.out]
  have F3 := Lib.hid (F2.out.trans f3); clear f3
  go_wp2_with fail
  obtain ⟨kA, hkA⟩ : ∃ k, k = w3.heap.size := ⟨_, rfl⟩
  obtain ⟨f, hf⟩ : ∃ f : Nat → Int, f = valAt l' := ⟨_, rfl⟩
  obtain ⟨g, hg⟩ : ∃ g : Nat → Int, g = fun j => valAt l' ((j + (((turn.tmod l'.length) + l'.length).tmod l'.length).toNat) % l'.length) := ⟨_, rfl⟩
  have hst : OSt W kA (kA + 1) f g 0 ((w3.alloc (.cells #[.slice none 0 0, .int .i64 64] 80)).alloc (.cells #[.slice none 0 0, .int .i64 64] 80)) [] [] none 0 none 0 := by
    subst hkA
    exact {
      ba := (box_new _ _ _ _).keep (gr_alloc _ _) (fun h => h)
      bb := by have := box_new (w3.alloc (.cells #[.slice none 0 0, .int .i64 64] 80)) (.slice none 0 0) (.int .i64 64) 80; simpa using this
      sa := SlA.nil _
      sb := SlA.nil _
      na := fun p hp => by cases hp
      nb := fun p hp => by cases hp
      ga := Good.nil (by decide) (by decide)
      gb := Good.nil (by decide) (by decide)
      na1 := Nat.zero_le _
      nb1 := Nat.zero_le _
      ma := fun x => by simp
      mb := fun x => by simp
      ea := .inl rfl
      eb := .inl rfl
      fr := (F3.out.trans (gr_alloc _ _)).trans (gr_alloc _ _) }
  have hWA : W.heap.size ≤ kA := by rw [hkA]; exact F3.out.size
  have HF := Lib.hid hf
  have HG := Lib.hid hg
  have HST := Lib.hid hst
  rw [← hkA]
  clear hf hg hst hite hmin F1 F2 F3 hkA
  go_loopw [9, 10, 11, 12, 13, 14] (fun iv _ _ _ _ _ wr => ∃ (i : Nat) (la lb : List Int) (aa : Option Addr) (ca : Nat) (ab : Option Addr) (cb : Nat), iv = .int .i64 i ∧ i ≤ l'.length ∧ OSt W kA (kA + 1) f g i wr la lb aa ca ab cb) (fun iv _ _ _ _ _ _ => l'.length - (intOf iv).toNat)
  case atStart => exact ⟨0, [], [], none, 0, none, 0, rfl, Nat.zero_le _, HST.out⟩
  case round =>
    obtain ⟨i, la, lb, aa, ca, ab, cb, rfl, hi, hst⟩ := hrel
    clear HST
    have ST := Lib.hid hst; clear hst
    by_cases hil : i < l'.length
    · go_wp2_with fail
      obtain ⟨k, hk, hkn, hgk⟩ := rot l'.length (by omega) hm1 turn i hil
      rw [hk]
      clear hk
      have hgi : Hid (g i = valAt l' k) := Lib.hid (by rw [HG.out]; exact congrArg (valAt l') hgk.symm)
      clear hgk
      have hsl := HL.out.keep ST.out.fr (fun _ _ h => h)
      obtain ⟨b1, o1, rfl, hc1⟩ := hsl.cell i (.int .u16 l'[i]) (by simp [hil])
      obtain ⟨b2, o2, he, hc2⟩ := hsl.cell k (.int .u16 l'[k]) (by simp [hkn])
      cases he
      clear hsl
      have hx1 := HR.out l'[i] (List.getElem_mem hil)
      have hx2 := HR.out l'[k] (List.getElem_mem hkn)
      have hvi : Hid (f i = nval l'[i]) := Lib.hid (by rw [HF.out]; simp [valAt, hil])
      have hvk : Hid (g i = nval l'[k]) := Lib.hid (by rw [hgi.out]; simp [valAt, hkn])
      generalize l'[i] = x1 at *
      generalize l'[k] = x2 at *
      have LT : Hid (kA + 1 < wr.heap.size) := Lib.hid ST.out.bb.lt
      have LTA := Lib.hid (lt_of_ne ST.out.sa ST.out.ea)
      haveI : Nonempty (WC (Fr (fun _ => False) wr)) := ⟨⟨wr, Fr.refl _ _⟩⟩
      have y0 : ∀ z : WC (Fr (fun _ => False) wr), z.val.cell? ⟨kA, 0, none⟩ = some (.slice aa la.length ca) := fun z => z.ok.cell (ST.out.ba).c0 (fun h => h)
      have y1 : ∀ z : WC (Fr (fun _ => False) wr), z.val.cell? ⟨kA, 1, none⟩ = some (.int .i64 64) := fun z => z.ok.cell (ST.out.ba).c1 (fun h => h)
      have y2 : ∀ z : WC (Fr (fun _ => False) wr), z.val.cell? ⟨b1, o1 + i, none⟩ = some (.int .u16 x1) := fun z => z.ok.cell (hc1) (fun h => h)
      obtain ⟨hv1, hv2, hv3⟩ := nval_walk hx1
      obtain ⟨hok, hmem, hlen⟩ := add_room (la := la) (v := nval x1) hv2 hv3 (by have := ST.out.na1; omega)
      have A1 : Hid (∀ w, Gr wr w → Calls Try.prog 50 #[setV aa la.length ca 64, .int .i64 (1 + x1 % 65535)] w (SetOut2 aa (sAdd la 64 (nval x1)) 64 true w)) := Lib.hid (fun w hw => hok ▸ setAdd_any aa ca la 64 (nval x1) w (SlA.keep (ST.out.sa) hw (fun _ _ h => h)) ST.out.ga)
      have M1 : Hid (OSt1 f i la (sAdd la 64 (nval x1))) := Lib.hid ⟨ST.out.ga.add _, by have := ST.out.na1; omega, ST.out.ma.add hvi.out.symm hmem⟩
      clear hv1 hv2 hv3 hok hmem hlen
      generalize sAdd la 64 (nval x1) = la1 at A1 M1
      refine wp_region_plan [8, 12, 13] (Plan.seq [0, 1, 2, 3, 4, 5, 6, 7] (.fork 8 12 (Plan.seq [12, 9, 10, 11, 13, 14] .done) (Plan.seq [8, 9, 10, 11, 13, 14] .done))) (fun w' => ∃ z : WC (Fr (fun _ => False) wr), w' = z.val) (by kernel_rfl) (by kernel_rfl) (fun c a w d v h => by cases d <;> exact h) (fun c a w d v h => by cases d <;> exact h) ⟨⟨wr.drew, (Fr.refl _ _).drew⟩, rfl⟩ ?_
      simp only [Plan.seq, List.foldr]
      repeat (refine wpV_q (by simp only [List.getElem?_toArray, List.getElem?_cons_succ, List.getElem?_cons_zero] <;> rfl) (by rfl) (by rfl) ?_; go_big_quiet_step (fail); refine wpQuiet_nil ?_)
      refine wpV_fork (by simp only [List.getElem?_toArray, List.getElem?_cons_succ, List.getElem?_cons_zero] <;> rfl) (by simp only [List.getElem?_toArray, List.getElem?_cons_succ, List.getElem?_cons_zero] <;> rfl) ?_ ?_
      · go_wp2_with fail
        refine (A1.out _ (Fr.refl _ _).drew).mono ?_
        rintro e w2 ⟨ax, cx, rfl, hx, fx, nx⟩
        have fx := ((Fr.refl (fun _ => False) wr).drew).trans fx (fun _ h => h.elim)
        go_wp2_with fail
        refine ⟨⟨⟨w2, fx⟩, rfl⟩, ?_⟩
        refine wpV_e (by simp only [List.getElem?_toArray, List.getElem?_cons_succ, List.getElem?_cons_zero] <;> rfl) (by rfl) ?_
        go_wp2_with fail
        refine ⟨⟨⟨_, fx.alloc _⟩, rfl⟩, ?_⟩
        repeat (refine wpV_q (by simp only [List.getElem?_toArray, List.getElem?_cons_succ, List.getElem?_cons_zero] <;> rfl) (by rfl) (by rfl) ?_; go_big_quiet_step (fail); refine wpQuiet_nil ?_)
        refine wpV_e (by simp only [List.getElem?_toArray, List.getElem?_cons_succ, List.getElem?_cons_zero] <;> rfl) (by rfl) ?_
        go_wp2_with fail
        refine ⟨⟨⟨_, fx.alloc (.cells #[.slice ax la1.length cx, .int .i64 64] 80)⟩, rfl⟩, ?_⟩
        have b6 := box_new w2 (.slice ax la1.length cx) (.int .i64 64) 80
        have s6 := hx.keep (gr_alloc w2 (.cells #[.slice ax la1.length cx, .int .i64 64] 80)) (fun _ _ h => h)
        have f6 := fx.alloc (.cells #[.slice ax la1.length cx, .int .i64 64] 80)
        change wpV _ _ _ _ _ _ _ (w2.alloc (.cells #[.slice ax la1.length cx, .int .i64 64] 80))
        generalize hw6 : w2.alloc (.cells #[.slice ax la1.length cx, .int .i64 64] 80) = w6 at b6 s6 f6 ⊢
        clear hw6 hx
        have hkx0 : wr.heap.size ≤ w2.heap.size := fx.size
        have n6 : ∀ p, ax = some p → p.block ≠ kA ∧ p.block ≠ kA + 1 := fun p hp => by
          rcases nx p hp with h | h
          · exact ST.out.na p h
          · have h1 := LT.out
            simp at h; omega
        clear fx nx
        generalize w2.heap.size = kx at *
        have B6 := Lib.hid b6
        have S6 := Lib.hid s6
        have F6 := Lib.hid f6
        have N6 := Lib.hid n6
        clear b6 s6 f6 n6
        repeat (refine wpV_q (by simp only [List.getElem?_toArray, List.getElem?_cons_succ, List.getElem?_cons_zero] <;> rfl) (by rfl) (by rfl) ?_; go_big_quiet_step (fail); refine wpQuiet_nil ?_)
        refine wpV_done ?_
        clear y0 y1 y2 this
        have LT0 := LT.out
        have hsz := F6.out.size
        have LTB : Hid (∀ p, ab = some p → p.block < w6.heap.size) := Lib.hid (lt_of_ne (ST.out.sb.keep F6.out (fun _ _ h => h)) ST.out.eb)
        clear LT
        have LT : Hid (kA + 1 < w6.heap.size) := Lib.hid (by omega)
        go_wp2_with fail
        haveI : Nonempty (WC (Fr (fun _ => False) w6)) := ⟨⟨w6, Fr.refl _ _⟩⟩
        have y0 : ∀ z : WC (Fr (fun _ => False) w6), z.val.cell? ⟨kA + 1, 0, none⟩ = some (.slice ab lb.length cb) := fun z => z.ok.cell (ST.out.bb.keep F6.out (fun h => h)).c0 (fun h => h)
        have y1 : ∀ z : WC (Fr (fun _ => False) w6), z.val.cell? ⟨kA + 1, 1, none⟩ = some (.int .i64 64) := fun z => z.ok.cell (ST.out.bb.keep F6.out (fun h => h)).c1 (fun h => h)
        have y2 : ∀ z : WC (Fr (fun _ => False) w6), z.val.cell? ⟨b1, o1 + k, none⟩ = some (.int .u16 x2) := fun z => z.ok.cell (F6.out.cell hc2 (fun h => h)) (fun h => h)
        obtain ⟨hv1, hv2, hv3⟩ := nval_walk hx2
        obtain ⟨hok, hmem, hlen⟩ := add_room (la := lb) (v := nval x2) hv2 hv3 (by have := ST.out.nb1; omega)
        have A2 : Hid (∀ w, Gr w6 w → Calls Try.prog 50 #[setV ab lb.length cb 64, .int .i64 (1 + x2 % 65535)] w (SetOut2 ab (sAdd lb 64 (nval x2)) 64 true w)) := Lib.hid (fun w hw => hok ▸ setAdd_any ab cb lb 64 (nval x2) w (SlA.keep (ST.out.sb.keep F6.out (fun _ _ h => h)) hw (fun _ _ h => h)) ST.out.gb)
        have M2 : Hid (OSt1 g i lb (sAdd lb 64 (nval x2))) := Lib.hid ⟨ST.out.gb.add _, by have := ST.out.nb1; omega, ST.out.mb.add hvk.out.symm hmem⟩
        clear hv1 hv2 hv3 hok hmem hlen
        generalize sAdd lb 64 (nval x2) = lb1 at A2 M2
        refine wp_region_plan [8, 12, 13] (Plan.seq [0, 1, 2, 3, 4, 5, 6, 7] (.fork 8 12 (Plan.seq [12, 9, 10, 11, 13, 14] .done) (Plan.seq [8, 9, 10, 11, 13, 14] .done))) (fun w' => ∃ z : WC (Fr (fun _ => False) w6), w' = z.val) (by kernel_rfl) (by kernel_rfl) (fun c a w d v h => by cases d <;> exact h) (fun c a w d v h => by cases d <;> exact h) ⟨⟨w6.drew, (Fr.refl _ _).drew⟩, rfl⟩ ?_
        simp only [Plan.seq, List.foldr]
        repeat (refine wpV_q (by simp only [List.getElem?_toArray, List.getElem?_cons_succ, List.getElem?_cons_zero] <;> rfl) (by rfl) (by rfl) ?_; go_big_quiet_step (fail); refine wpQuiet_nil ?_)
        refine wpV_fork (by simp only [List.getElem?_toArray, List.getElem?_cons_succ, List.getElem?_cons_zero] <;> rfl) (by simp only [List.getElem?_toArray, List.getElem?_cons_succ, List.getElem?_cons_zero] <;> rfl) ?_ ?_
        · go_wp2_with fail
          refine (A2.out _ (Fr.refl _ _).drew).mono ?_
          rintro e w2 ⟨ay, cy, rfl, hx, fx, nx⟩
          have fx := ((Fr.refl (fun _ => False) w6).drew).trans fx (fun _ h => h.elim)
          go_wp2_with fail
          refine ⟨⟨⟨w2, fx⟩, rfl⟩, ?_⟩
          refine wpV_e (by simp only [List.getElem?_toArray, List.getElem?_cons_succ, List.getElem?_cons_zero] <;> rfl) (by rfl) ?_
          go_wp2_with fail
          refine ⟨⟨⟨_, fx.alloc _⟩, rfl⟩, ?_⟩
          repeat (refine wpV_q (by simp only [List.getElem?_toArray, List.getElem?_cons_succ, List.getElem?_cons_zero] <;> rfl) (by rfl) (by rfl) ?_; go_big_quiet_step (fail); refine wpQuiet_nil ?_)
          refine wpV_e (by simp only [List.getElem?_toArray, List.getElem?_cons_succ, List.getElem?_cons_zero] <;> rfl) (by rfl) ?_
          go_wp2_with fail
          refine ⟨⟨⟨_, fx.alloc (.cells #[.slice ay lb1.length cy, .int .i64 64] 80)⟩, rfl⟩, ?_⟩
          have b6 := box_new w2 (.slice ay lb1.length cy) (.int .i64 64) 80
          have s6 := hx.keep (gr_alloc w2 (.cells #[.slice ay lb1.length cy, .int .i64 64] 80)) (fun _ _ h => h)
          have f6 := fx.alloc (.cells #[.slice ay lb1.length cy, .int .i64 64] 80)
          change wpV _ _ _ _ _ _ _ (w2.alloc (.cells #[.slice ay lb1.length cy, .int .i64 64] 80))
          generalize hw6 : w2.alloc (.cells #[.slice ay lb1.length cy, .int .i64 64] 80) = w9 at b6 s6 f6 ⊢
          clear hw6 hx
          have hky0 : w6.heap.size ≤ w2.heap.size := fx.size
          have n6 : ∀ p, ay = some p → p.block ≠ kA ∧ p.block ≠ kA + 1 := fun p hp => by
            rcases nx p hp with h | h
            · exact ST.out.nb p h
            · have h1 := LT.out
              simp at h; omega
          clear fx nx
          generalize w2.heap.size = ky at *
          have B9 := Lib.hid b6
          have S9 := Lib.hid s6
          have F9 := Lib.hid f6
          have N9 := Lib.hid n6
          clear b6 s6 f6 n6
          repeat (refine wpV_q (by simp only [List.getElem?_toArray, List.getElem?_cons_succ, List.getElem?_cons_zero] <;> rfl) (by rfl) (by rfl) ?_; go_big_quiet_step (fail); refine wpQuiet_nil ?_)
          refine wpV_done ?_
          clear y0 y1 y2 this
          have hkx1 := B6.out.lt
          have b6 := B6.out.keep F9.out (fun h => h)
          have i0 := b6.c0
          have i1 := b6.c1
          have j0 := B9.out.c0
          have j1 := B9.out.c1
          have ba := (ST.out.ba.keep F6.out (fun h => h)).keep F9.out (fun h => h)
          have bb := (ST.out.bb.keep F6.out (fun h => h)).keep F9.out (fun h => h)
          have k0 := ba.c0
          have k1 := ba.c1
          have m0 := bb.c0
          have m1 := bb.c1
          have z0 := ba.z 0
          have z1 := ba.z 1
          have z2 := bb.z 0
          have z3 := bb.z 1
          have BA := Lib.hid ba
          have BB := Lib.hid bb
          have B6' := Lib.hid b6
          clear ba bb b6
          have q1 : kA < kx := by omega
          have q2 : kA + 1 < kx := by omega
          have q3 : kA < ky := by omega
          have q4 : kA + 1 < ky := by omega
          have q5 : kx < ky := by omega
          go_wp2_with fail
          go_region
          have FIN := Lib.hid (round_end (Fr.trans ST.out.fr (Fr.trans F6.out F9.out (fun _ h => h.elim)) (fun _ h => h.elim)) BA.out BB.out (S6.out.keep F9.out (fun _ _ h => h)) S9.out N6.out N9.out M1.out M2.out hWA)
          go_wp2_with fail
          go_roundw
          case rel => exact ⟨i + 1, la1, lb1, ax, cx, ay, cy, by go_num, by omega, FIN.out⟩
          case measure => simp [intOf]; omega
        · go_wp2_with fail
          have hb0 := box_new w6.drew (.slice none 0 0) (.int .i64 0) 80
          have hf0 := (Fr.refl (fun _ => False) w6).drew.alloc (.cells #[.slice none 0 0, .int .i64 0] 80)
          refine ⟨⟨⟨_, hf0⟩, rfl⟩, ?_⟩
          refine wpV_e (by simp only [List.getElem?_toArray, List.getElem?_cons_succ, List.getElem?_cons_zero] <;> rfl) (by rfl) ?_
          go_wp2_with fail
          refine (A2.out _ hf0).mono ?_
          rintro e w2 ⟨ay, cy, rfl, hx, fx, nx⟩
          have hb2 : Box w2 w6.heap.size (.slice none 0 0) (.int .i64 0) := hb0.keep fx (fun h => h)
          have fx := hf0.trans fx (fun _ h => h.elim)
          have i0 := hb2.c0
          have i1 := hb2.c1
          have z0 := hb2.z 0
          have z1 := hb2.z 1
          have hlt := lt_of_cell i0
          simp only at hlt
          go_wp2_with fail
          refine ⟨⟨⟨w2, fx⟩, rfl⟩, ?_⟩
          repeat (refine wpV_q (by simp only [List.getElem?_toArray, List.getElem?_cons_succ, List.getElem?_cons_zero] <;> rfl) (by rfl) (by rfl) ?_; go_big_quiet_step (fail); refine wpQuiet_nil ?_)
          refine wpV_e (by simp only [List.getElem?_toArray, List.getElem?_cons_succ, List.getElem?_cons_zero] <;> rfl) (by rfl) ?_
          go_wp2_with fail
          have fs := fr_set w2 w6.heap.size (.slice ay lb1.length cy) (.int .i64 64)
          have f6 : Gr w6 _ := Fr.trans fx fs (fun k hk => .inr (by have : k = w6.heap.size := hk; omega))
          refine ⟨⟨⟨_, f6⟩, rfl⟩, ?_⟩
          have b6 := hb2.set (.slice ay lb1.length cy) (.int .i64 64)
          have s6 := hx.keep fs (fun p hp hk => by
            have hk : p.block = w6.heap.size := hk
            rcases nx p hp with h | h
            · have := LTB.out p h; omega
            · simp at h; omega)
          have hky0 : w6.heap.size ≤ w6.heap.size := Nat.le_refl _
          have n6 : ∀ p, ay = some p → p.block ≠ kA ∧ p.block ≠ kA + 1 := fun p hp => by
            rcases nx p hp with h | h
            · exact ST.out.nb p h
            · have h1 := LT.out
              simp at h; omega
          clear fs fx nx i0 i1 z0 z1 hlt hb2 hb0 hf0 hx
          generalize hw6 : (w2.setCell ⟨w6.heap.size, 0, none⟩ (.slice ay lb1.length cy)).setCell ⟨w6.heap.size, 1, none⟩ (.int .i64 64) = w9 at *
          clear hw6
          generalize hkx : w6.heap.size = ky at b6 f6 hky0 n6 ⊢
          rw [← hkx] at hky0
          have hky0 : w6.heap.size ≤ ky := Nat.le_of_eq hkx
          clear hkx
          have B9 := Lib.hid b6
          have S9 := Lib.hid s6
          have F9 := Lib.hid f6
          have N9 := Lib.hid n6
          clear b6 s6 f6 n6
          repeat (refine wpV_q (by simp only [List.getElem?_toArray, List.getElem?_cons_succ, List.getElem?_cons_zero] <;> rfl) (by rfl) (by rfl) ?_; go_big_quiet_step (fail); refine wpQuiet_nil ?_)
          refine wpV_done ?_
          clear y0 y1 y2 this
          have hkx1 := B6.out.lt
          have b6 := B6.out.keep F9.out (fun h => h)
          have i0 := b6.c0
          have i1 := b6.c1
          have j0 := B9.out.c0
          have j1 := B9.out.c1
          have ba := (ST.out.ba.keep F6.out (fun h => h)).keep F9.out (fun h => h)
          have bb := (ST.out.bb.keep F6.out (fun h => h)).keep F9.out (fun h => h)
          have k0 := ba.c0
          have k1 := ba.c1
          have m0 := bb.c0
          have m1 := bb.c1
          have z0 := ba.z 0
          have z1 := ba.z 1
          have z2 := bb.z 0
          have z3 := bb.z 1
          have BA := Lib.hid ba
          have BB := Lib.hid bb
          have B6' := Lib.hid b6
          clear ba bb b6
          have q1 : kA < kx := by omega
          have q2 : kA + 1 < kx := by omega
          have q3 : kA < ky := by omega
          have q4 : kA + 1 < ky := by omega
          have q5 : kx < ky := by omega
          go_wp2_with fail
          go_region
          have FIN := Lib.hid (round_end (Fr.trans ST.out.fr (Fr.trans F6.out F9.out (fun _ h => h.elim)) (fun _ h => h.elim)) BA.out BB.out (S6.out.keep F9.out (fun _ _ h => h)) S9.out N6.out N9.out M1.out M2.out hWA)
          go_wp2_with fail
          go_roundw
          case rel => exact ⟨i + 1, la1, lb1, ax, cx, ay, cy, by go_num, by omega, FIN.out⟩
          case measure => simp [intOf]; omega
      · go_wp2_with fail
        have hb0 := box_new wr.drew (.slice none 0 0) (.int .i64 0) 80
        have hf0 := (Fr.refl (fun _ => False) wr).drew.alloc (.cells #[.slice none 0 0, .int .i64 0] 80)
        refine ⟨⟨⟨_, hf0⟩, rfl⟩, ?_⟩
        refine wpV_e (by simp only [List.getElem?_toArray, List.getElem?_cons_succ, List.getElem?_cons_zero] <;> rfl) (by rfl) ?_
        go_wp2_with fail
        refine (A1.out _ hf0).mono ?_
        rintro e w2 ⟨ax, cx, rfl, hx, fx, nx⟩
        have hb2 : Box w2 wr.heap.size (.slice none 0 0) (.int .i64 0) := hb0.keep fx (fun h => h)
        have fx := hf0.trans fx (fun _ h => h.elim)
        have i0 := hb2.c0
        have i1 := hb2.c1
        have z0 := hb2.z 0
        have z1 := hb2.z 1
        have hlt := lt_of_cell i0
        simp only at hlt
        go_wp2_with fail
        refine ⟨⟨⟨w2, fx⟩, rfl⟩, ?_⟩
        repeat (refine wpV_q (by simp only [List.getElem?_toArray, List.getElem?_cons_succ, List.getElem?_cons_zero] <;> rfl) (by rfl) (by rfl) ?_; go_big_quiet_step (fail); refine wpQuiet_nil ?_)
        refine wpV_e (by simp only [List.getElem?_toArray, List.getElem?_cons_succ, List.getElem?_cons_zero] <;> rfl) (by rfl) ?_
        go_wp2_with fail
        have fs := fr_set w2 wr.heap.size (.slice ax la1.length cx) (.int .i64 64)
        have f6 : Gr wr _ := Fr.trans fx fs (fun k hk => .inr (by have : k = wr.heap.size := hk; omega))
        refine ⟨⟨⟨_, f6⟩, rfl⟩, ?_⟩
        have b6 := hb2.set (.slice ax la1.length cx) (.int .i64 64)
        have s6 := hx.keep fs (fun p hp hk => by
          have hk : p.block = wr.heap.size := hk
          rcases nx p hp with h | h
          · have := LTA.out p h; omega
          · simp at h; omega)
        have hkx0 : wr.heap.size ≤ wr.heap.size := Nat.le_refl _
        have n6 : ∀ p, ax = some p → p.block ≠ kA ∧ p.block ≠ kA + 1 := fun p hp => by
          rcases nx p hp with h | h
          · exact ST.out.na p h
          · have h1 := LT.out
            simp at h; omega
        clear fs fx nx i0 i1 z0 z1 hlt hb2 hb0 hf0 hx
        generalize hw6 : (w2.setCell ⟨wr.heap.size, 0, none⟩ (.slice ax la1.length cx)).setCell ⟨wr.heap.size, 1, none⟩ (.int .i64 64) = w6 at *
        clear hw6
        generalize hkx : wr.heap.size = kx at b6 f6 hkx0 n6 ⊢
        rw [← hkx] at hkx0
        have hkx0 : wr.heap.size ≤ kx := Nat.le_of_eq hkx
        clear hkx
        have B6 := Lib.hid b6
        have S6 := Lib.hid s6
        have F6 := Lib.hid f6
        have N6 := Lib.hid n6
        clear b6 s6 f6 n6
        repeat (refine wpV_q (by simp only [List.getElem?_toArray, List.getElem?_cons_succ, List.getElem?_cons_zero] <;> rfl) (by rfl) (by rfl) ?_; go_big_quiet_step (fail); refine wpQuiet_nil ?_)
        refine wpV_done ?_
        clear y0 y1 y2 this
        have LT0 := LT.out
        have hsz := F6.out.size
        have LTB : Hid (∀ p, ab = some p → p.block < w6.heap.size) := Lib.hid (lt_of_ne (ST.out.sb.keep F6.out (fun _ _ h => h)) ST.out.eb)
        clear LT
        have LT : Hid (kA + 1 < w6.heap.size) := Lib.hid (by omega)
        go_wp2_with fail
        haveI : Nonempty (WC (Fr (fun _ => False) w6)) := ⟨⟨w6, Fr.refl _ _⟩⟩
        have y0 : ∀ z : WC (Fr (fun _ => False) w6), z.val.cell? ⟨kA + 1, 0, none⟩ = some (.slice ab lb.length cb) := fun z => z.ok.cell (ST.out.bb.keep F6.out (fun h => h)).c0 (fun h => h)
        have y1 : ∀ z : WC (Fr (fun _ => False) w6), z.val.cell? ⟨kA + 1, 1, none⟩ = some (.int .i64 64) := fun z => z.ok.cell (ST.out.bb.keep F6.out (fun h => h)).c1 (fun h => h)
        have y2 : ∀ z : WC (Fr (fun _ => False) w6), z.val.cell? ⟨b1, o1 + k, none⟩ = some (.int .u16 x2) := fun z => z.ok.cell (F6.out.cell hc2 (fun h => h)) (fun h => h)
        obtain ⟨hv1, hv2, hv3⟩ := nval_walk hx2
        obtain ⟨hok, hmem, hlen⟩ := add_room (la := lb) (v := nval x2) hv2 hv3 (by have := ST.out.nb1; omega)
        have A2 : Hid (∀ w, Gr w6 w → Calls Try.prog 50 #[setV ab lb.length cb 64, .int .i64 (1 + x2 % 65535)] w (SetOut2 ab (sAdd lb 64 (nval x2)) 64 true w)) := Lib.hid (fun w hw => hok ▸ setAdd_any ab cb lb 64 (nval x2) w (SlA.keep (ST.out.sb.keep F6.out (fun _ _ h => h)) hw (fun _ _ h => h)) ST.out.gb)
        have M2 : Hid (OSt1 g i lb (sAdd lb 64 (nval x2))) := Lib.hid ⟨ST.out.gb.add _, by have := ST.out.nb1; omega, ST.out.mb.add hvk.out.symm hmem⟩
        clear hv1 hv2 hv3 hok hmem hlen
        generalize sAdd lb 64 (nval x2) = lb1 at A2 M2
        refine wp_region_plan [8, 12, 13] (Plan.seq [0, 1, 2, 3, 4, 5, 6, 7] (.fork 8 12 (Plan.seq [12, 9, 10, 11, 13, 14] .done) (Plan.seq [8, 9, 10, 11, 13, 14] .done))) (fun w' => ∃ z : WC (Fr (fun _ => False) w6), w' = z.val) (by kernel_rfl) (by kernel_rfl) (fun c a w d v h => by cases d <;> exact h) (fun c a w d v h => by cases d <;> exact h) ⟨⟨w6.drew, (Fr.refl _ _).drew⟩, rfl⟩ ?_
        simp only [Plan.seq, List.foldr]
        repeat (refine wpV_q (by simp only [List.getElem?_toArray, List.getElem?_cons_succ, List.getElem?_cons_zero] <;> rfl) (by rfl) (by rfl) ?_; go_big_quiet_step (fail); refine wpQuiet_nil ?_)
        refine wpV_fork (by simp only [List.getElem?_toArray, List.getElem?_cons_succ, List.getElem?_cons_zero] <;> rfl) (by simp only [List.getElem?_toArray, List.getElem?_cons_succ, List.getElem?_cons_zero] <;> rfl) ?_ ?_
        · go_wp2_with fail
          refine (A2.out _ (Fr.refl _ _).drew).mono ?_
          rintro e w2 ⟨ay, cy, rfl, hx, fx, nx⟩
          have fx := ((Fr.refl (fun _ => False) w6).drew).trans fx (fun _ h => h.elim)
          go_wp2_with fail
          refine ⟨⟨⟨w2, fx⟩, rfl⟩, ?_⟩
          refine wpV_e (by simp only [List.getElem?_toArray, List.getElem?_cons_succ, List.getElem?_cons_zero] <;> rfl) (by rfl) ?_
          go_wp2_with fail
          refine ⟨⟨⟨_, fx.alloc _⟩, rfl⟩, ?_⟩
          repeat (refine wpV_q (by simp only [List.getElem?_toArray, List.getElem?_cons_succ, List.getElem?_cons_zero] <;> rfl) (by rfl) (by rfl) ?_; go_big_quiet_step (fail); refine wpQuiet_nil ?_)
          refine wpV_e (by simp only [List.getElem?_toArray, List.getElem?_cons_succ, List.getElem?_cons_zero] <;> rfl) (by rfl) ?_
          go_wp2_with fail
          refine ⟨⟨⟨_, fx.alloc (.cells #[.slice ay lb1.length cy, .int .i64 64] 80)⟩, rfl⟩, ?_⟩
          have b6 := box_new w2 (.slice ay lb1.length cy) (.int .i64 64) 80
          have s6 := hx.keep (gr_alloc w2 (.cells #[.slice ay lb1.length cy, .int .i64 64] 80)) (fun _ _ h => h)
          have f6 := fx.alloc (.cells #[.slice ay lb1.length cy, .int .i64 64] 80)
          change wpV _ _ _ _ _ _ _ (w2.alloc (.cells #[.slice ay lb1.length cy, .int .i64 64] 80))
          generalize hw6 : w2.alloc (.cells #[.slice ay lb1.length cy, .int .i64 64] 80) = w9 at b6 s6 f6 ⊢
          clear hw6 hx
          have hky0 : w6.heap.size ≤ w2.heap.size := fx.size
          have n6 : ∀ p, ay = some p → p.block ≠ kA ∧ p.block ≠ kA + 1 := fun p hp => by
            rcases nx p hp with h | h
            · exact ST.out.nb p h
            · have h1 := LT.out
              simp at h; omega
          clear fx nx
          generalize w2.heap.size = ky at *
          have B9 := Lib.hid b6
          have S9 := Lib.hid s6
          have F9 := Lib.hid f6
          have N9 := Lib.hid n6
          clear b6 s6 f6 n6
          repeat (refine wpV_q (by simp only [List.getElem?_toArray, List.getElem?_cons_succ, List.getElem?_cons_zero] <;> rfl) (by rfl) (by rfl) ?_; go_big_quiet_step (fail); refine wpQuiet_nil ?_)
          refine wpV_done ?_
          clear y0 y1 y2 this
          have hkx1 := B6.out.lt
          have b6 := B6.out.keep F9.out (fun h => h)
          have i0 := b6.c0
          have i1 := b6.c1
          have j0 := B9.out.c0
          have j1 := B9.out.c1
          have ba := (ST.out.ba.keep F6.out (fun h => h)).keep F9.out (fun h => h)
          have bb := (ST.out.bb.keep F6.out (fun h => h)).keep F9.out (fun h => h)
          have k0 := ba.c0
          have k1 := ba.c1
          have m0 := bb.c0
          have m1 := bb.c1
          have z0 := ba.z 0
          have z1 := ba.z 1
          have z2 := bb.z 0
          have z3 := bb.z 1
          have BA := Lib.hid ba
          have BB := Lib.hid bb
          have B6' := Lib.hid b6
          clear ba bb b6
          have q1 : kA < kx := by omega
          have q2 : kA + 1 < kx := by omega
          have q3 : kA < ky := by omega
          have q4 : kA + 1 < ky := by omega
          have q5 : kx < ky := by omega
          go_wp2_with fail
          go_region
          have FIN := Lib.hid (round_end (Fr.trans ST.out.fr (Fr.trans F6.out F9.out (fun _ h => h.elim)) (fun _ h => h.elim)) BA.out BB.out (S6.out.keep F9.out (fun _ _ h => h)) S9.out N6.out N9.out M1.out M2.out hWA)
          go_wp2_with fail
          go_roundw
          case rel => exact ⟨i + 1, la1, lb1, ax, cx, ay, cy, by go_num, by omega, FIN.out⟩
          case measure => simp [intOf]; omega
        · go_wp2_with fail
          have hb0 := box_new w6.drew (.slice none 0 0) (.int .i64 0) 80
          have hf0 := (Fr.refl (fun _ => False) w6).drew.alloc (.cells #[.slice none 0 0, .int .i64 0] 80)
          refine ⟨⟨⟨_, hf0⟩, rfl⟩, ?_⟩
          refine wpV_e (by simp only [List.getElem?_toArray, List.getElem?_cons_succ, List.getElem?_cons_zero] <;> rfl) (by rfl) ?_
          go_wp2_with fail
          refine (A2.out _ hf0).mono ?_
          rintro e w2 ⟨ay, cy, rfl, hx, fx, nx⟩
          have hb2 : Box w2 w6.heap.size (.slice none 0 0) (.int .i64 0) := hb0.keep fx (fun h => h)
          have fx := hf0.trans fx (fun _ h => h.elim)
          have i0 := hb2.c0
          have i1 := hb2.c1
          have z0 := hb2.z 0
          have z1 := hb2.z 1
          have hlt := lt_of_cell i0
          simp only at hlt
          go_wp2_with fail
          refine ⟨⟨⟨w2, fx⟩, rfl⟩, ?_⟩
          repeat (refine wpV_q (by simp only [List.getElem?_toArray, List.getElem?_cons_succ, List.getElem?_cons_zero] <;> rfl) (by rfl) (by rfl) ?_; go_big_quiet_step (fail); refine wpQuiet_nil ?_)
          refine wpV_e (by simp only [List.getElem?_toArray, List.getElem?_cons_succ, List.getElem?_cons_zero] <;> rfl) (by rfl) ?_
          go_wp2_with fail
          have fs := fr_set w2 w6.heap.size (.slice ay lb1.length cy) (.int .i64 64)
          have f6 : Gr w6 _ := Fr.trans fx fs (fun k hk => .inr (by have : k = w6.heap.size := hk; omega))
          refine ⟨⟨⟨_, f6⟩, rfl⟩, ?_⟩
          have b6 := hb2.set (.slice ay lb1.length cy) (.int .i64 64)
          have s6 := hx.keep fs (fun p hp hk => by
            have hk : p.block = w6.heap.size := hk
            rcases nx p hp with h | h
            · have := LTB.out p h; omega
            · simp at h; omega)
          have hky0 : w6.heap.size ≤ w6.heap.size := Nat.le_refl _
          have n6 : ∀ p, ay = some p → p.block ≠ kA ∧ p.block ≠ kA + 1 := fun p hp => by
            rcases nx p hp with h | h
            · exact ST.out.nb p h
            · have h1 := LT.out
              simp at h; omega
          clear fs fx nx i0 i1 z0 z1 hlt hb2 hb0 hf0 hx
          generalize hw6 : (w2.setCell ⟨w6.heap.size, 0, none⟩ (.slice ay lb1.length cy)).setCell ⟨w6.heap.size, 1, none⟩ (.int .i64 64) = w9 at *
          clear hw6
          generalize hkx : w6.heap.size = ky at b6 f6 hky0 n6 ⊢
          rw [← hkx] at hky0
          have hky0 : w6.heap.size ≤ ky := Nat.le_of_eq hkx
          clear hkx
          have B9 := Lib.hid b6
          have S9 := Lib.hid s6
          have F9 := Lib.hid f6
          have N9 := Lib.hid n6
          clear b6 s6 f6 n6
          repeat (refine wpV_q (by simp only [List.getElem?_toArray, List.getElem?_cons_succ, List.getElem?_cons_zero] <;> rfl) (by rfl) (by rfl) ?_; go_big_quiet_step (fail); refine wpQuiet_nil ?_)
          refine wpV_done ?_
          clear y0 y1 y2 this
          have hkx1 := B6.out.lt
          have b6 := B6.out.keep F9.out (fun h => h)
          have i0 := b6.c0
          have i1 := b6.c1
          have j0 := B9.out.c0
          have j1 := B9.out.c1
          have ba := (ST.out.ba.keep F6.out (fun h => h)).keep F9.out (fun h => h)
          have bb := (ST.out.bb.keep F6.out (fun h => h)).keep F9.out (fun h => h)
          have k0 := ba.c0
          have k1 := ba.c1
          have m0 := bb.c0
          have m1 := bb.c1
          have z0 := ba.z 0
          have z1 := ba.z 1
          have z2 := bb.z 0
          have z3 := bb.z 1
          have BA := Lib.hid ba
          have BB := Lib.hid bb
          have B6' := Lib.hid b6
          clear ba bb b6
          have q1 : kA < kx := by omega
          have q2 : kA + 1 < kx := by omega
          have q3 : kA < ky := by omega
          have q4 : kA + 1 < ky := by omega
          have q5 : kx < ky := by omega
          go_wp2_with fail
          go_region
          have FIN := Lib.hid (round_end (Fr.trans ST.out.fr (Fr.trans F6.out F9.out (fun _ h => h.elim)) (fun _ h => h.elim)) BA.out BB.out (S6.out.keep F9.out (fun _ _ h => h)) S9.out N6.out N9.out M1.out M2.out hWA)
          go_wp2_with fail
          go_roundw
          case rel => exact ⟨i + 1, la1, lb1, ax, cx, ay, cy, by go_num, by omega, FIN.out⟩
          case measure => simp [intOf]; omega
    · go_wp2_with fail
      have hin : i = l'.length := by omega
      have hlab : la = lb := by
        refine up_eq ST.out.ga.up ST.out.gb.up (fun x => ?_)
        rw [ST.out.ma x, ST.out.mb x, hin, HF.out, HG.out]
        exact rot_mem l' _ x
      subst hlab
      have hlen : la.length ≤ 60 := by have := ST.out.na1; omega
      have GA := Lib.hid ST.out.ga
      have BA := Lib.hid ST.out.ba
      have BB := Lib.hid ST.out.bb
      have SA := Lib.hid ST.out.sa
      have SB := Lib.hid ST.out.sb
      have FR := Lib.hid ST.out.fr
      clear ST HF HG hin hi hil hll hm1 HL HR
      go_upto_region 14 with fail
      go_cut [102] from 81 to 102 (fun c wx => c = .bool false ∧ Gr wr wx)
      case first =>
        haveI : Nonempty (WC (Fr (fun _ => False) wr)) := ⟨⟨wr, Fr.refl _ _⟩⟩
        have y0 : ∀ z : WC (Fr (fun _ => False) wr), z.val.cell? ⟨kA, 0, none⟩ = some (.slice aa la.length ca) := fun z => z.ok.cell BA.out.c0 (fun h => h)
        have y1 : ∀ z : WC (Fr (fun _ => False) wr), z.val.cell? ⟨kA, 1, none⟩ = some (.int .i64 64) := fun z => z.ok.cell BA.out.c1 (fun h => h)
        have y2 : ∀ z : WC (Fr (fun _ => False) wr), z.val.cell? ⟨kA + 1, 0, none⟩ = some (.slice ab la.length cb) := fun z => z.ok.cell BB.out.c0 (fun h => h)
        have y3 : ∀ z : WC (Fr (fun _ => False) wr), z.val.cell? ⟨kA + 1, 1, none⟩ = some (.int .i64 64) := fun z => z.ok.cell BB.out.c1 (fun h => h)
        refine wp_region_plan [1, 3, 4, 8, 10, 11, 17, 18] (Plan.seq [0, 2, 1, 3, 4, 5, 6, 7, 9, 8, 10, 11, 12, 13, 14, 15, 16, 17, 18, 19, 20, 21] .done) (fun w' => ∃ z : WC (Fr (fun _ => False) wr), w' = z.val) (by kernel_rfl) (by kernel_rfl) (fun c a w d v h => by cases d <;> exact h) (fun c a w d v h => by cases d <;> exact h) ⟨⟨wr.drew, (Fr.refl _ _).drew⟩, rfl⟩ ?_
        simp only [Plan.seq, List.foldr]
        repeat (refine wpV_q (by simp only [List.getElem?_toArray, List.getElem?_cons_succ, List.getElem?_cons_zero] <;> rfl) (by rfl) (by rfl) ?_; go_big_quiet_step (fail); refine wpQuiet_nil ?_)
        refine wpV_e (by simp only [List.getElem?_toArray, List.getElem?_cons_succ, List.getElem?_cons_zero] <;> rfl) (by rfl) ?_
        go_wp2_with fail
        refine (setAll_any aa ca la 64 _ (SA.out.keep (Fr.refl (fun _ => False) wr).drew (fun _ _ h => h)) GA.out).mono ?_
        rintro e w2 ⟨v, rfl, ho, hb⟩
        obtain ⟨a2, c2, rfl, h2, -⟩ := SlA.of_own ho
        have f2 : Gr wr w2 := Fr.trans ((Fr.refl (fun _ => False) wr).drew) (Gr.of_below hb) (fun _ h => h.elim)
        clear ho hb
        have H2 := Lib.hid h2; clear h2
        go_wp2_with fail
        refine ⟨⟨⟨w2, f2⟩, rfl⟩, ?_⟩
        refine wpV_e (by simp only [List.getElem?_toArray, List.getElem?_cons_succ, List.getElem?_cons_zero] <;> rfl) (by rfl) ?_
        go_wp2_with fail
        refine (setAll_any ab cb la 64 _ (SB.out.keep f2 (fun _ _ h => h)) GA.out).mono ?_
        rintro e w3 ⟨v, rfl, ho, hb⟩
        obtain ⟨a3, c3, rfl, h3, -⟩ := SlA.of_own ho
        have g3 := Gr.of_below hb
        have f3 : Gr wr w3 := Fr.trans f2 g3 (fun _ h => h.elim)
        have H2' := Lib.hid (H2.out.keep g3 (fun _ _ h => h))
        have H3 := Lib.hid h3
        clear ho hb h3 g3
        go_wp2_with fail
        refine ⟨⟨⟨w3, f3⟩, rfl⟩, ?_⟩
        refine wpV_e (by simp only [List.getElem?_toArray, List.getElem?_cons_succ, List.getElem?_cons_zero] <;> rfl) (by rfl) ?_
        go_wp2_with fail
        refine (refSame_any a2 c2 la a3 c3 la _ H2'.out H3.out).mono ?_
        rintro e w4 ⟨rfl, q4, rfl⟩
        rw [(same_iff la la).2 rfl]
        have f4 := f3.drewN q4
        go_wp2_with fail
        refine ⟨⟨⟨_, f4⟩, rfl⟩, ?_⟩
        repeat (refine wpV_q (by simp only [List.getElem?_toArray, List.getElem?_cons_succ, List.getElem?_cons_zero] <;> rfl) (by rfl) (by rfl) ?_; go_big_quiet_step (fail); refine wpQuiet_nil ?_)
        refine wpV_e (by simp only [List.getElem?_toArray, List.getElem?_cons_succ, List.getElem?_cons_zero] <;> rfl) (by rfl) ?_
        go_wp2_with fail
        refine (setBut_any aa ca la 64 none 0 [] _ (SA.out.keep f4 (fun _ _ h => h)) (SlA.nil _) GA.out).mono ?_
        rintro e w5 ⟨a5, c5, rfl, h5, g5⟩
        rw [but_nil] at *
        have f5 : Gr wr w5 := Fr.trans f4 g5 (fun _ h => h.elim)
        have H5 := Lib.hid h5
        clear g5 h5
        go_wp2_with fail
        refine ⟨⟨⟨w5, f5⟩, rfl⟩, ?_⟩
        refine wpV_e (by simp only [List.getElem?_toArray, List.getElem?_cons_succ, List.getElem?_cons_zero] <;> rfl) (by rfl) ?_
        go_wp2_with fail
        refine (setAll_any aa ca la 64 _ (SA.out.keep f5 (fun _ _ h => h)) GA.out).mono ?_
        rintro e w6 ⟨v, rfl, ho, hb⟩
        obtain ⟨a6, c6, rfl, h6, -⟩ := SlA.of_own ho
        have g6 := Gr.of_below hb
        have f6 : Gr wr w6 := Fr.trans f5 g6 (fun _ h => h.elim)
        have H5' := Lib.hid (H5.out.keep g6 (fun _ _ h => h))
        have H6 := Lib.hid h6
        clear ho hb h6 g6
        go_wp2_with fail
        refine ⟨⟨⟨w6, f6⟩, rfl⟩, ?_⟩
        refine wpV_e (by simp only [List.getElem?_toArray, List.getElem?_cons_succ, List.getElem?_cons_zero] <;> rfl) (by rfl) ?_
        go_wp2_with fail
        refine (refSame_any a5 c5 la a6 c6 la _ H5'.out H6.out).mono ?_
        rintro e w7 ⟨rfl, q7, rfl⟩
        rw [(same_iff la la).2 rfl]
        have f7 := f6.drewN q7
        go_wp2_with fail
        refine ⟨⟨⟨_, f7⟩, rfl⟩, ?_⟩
        repeat (refine wpV_q (by simp only [List.getElem?_toArray, List.getElem?_cons_succ, List.getElem?_cons_zero] <;> rfl) (by rfl) (by rfl) ?_; go_big_quiet_step (fail); refine wpQuiet_nil ?_)
        refine wpV_e (by simp only [List.getElem?_toArray, List.getElem?_cons_succ, List.getElem?_cons_zero] <;> rfl) (by rfl) ?_
        go_wp2_with fail
        refine (setAll_any aa ca la 64 _ (SA.out.keep f7 (fun _ _ h => h)) GA.out).mono ?_
        rintro e w8 ⟨v, rfl, ho, hb⟩
        obtain ⟨a8, c8, rfl, h8, -⟩ := SlA.of_own ho
        have g8 := Gr.of_below hb
        have f8 : Gr wr w8 := Fr.trans f7 g8 (fun _ h => h.elim)
        have H8 := Lib.hid h8
        clear ho hb h8 g8
        go_wp2_with fail
        refine ⟨⟨⟨w8, f8⟩, rfl⟩, ?_⟩
        refine wpV_e (by simp only [List.getElem?_toArray, List.getElem?_cons_succ, List.getElem?_cons_zero] <;> rfl) (by rfl) ?_
        go_wp2_with fail
        refine (setBut_any aa ca la 64 a8 c8 la _ (SA.out.keep f8 (fun _ _ h => h)) H8.out GA.out).mono ?_
        rintro e w9 ⟨a9, c9, rfl, -, g9⟩
        rw [but_self] at *
        have f9 : Gr wr w9 := Fr.trans f8 g9 (fun _ h => h.elim)
        clear g9
        go_wp2_with fail
        refine ⟨⟨⟨w9, f9⟩, rfl⟩, ?_⟩
        repeat (refine wpV_q (by simp only [List.getElem?_toArray, List.getElem?_cons_succ, List.getElem?_cons_zero] <;> rfl) (by rfl) (by rfl) ?_; go_big_quiet_step (fail); refine wpQuiet_nil ?_)
        refine wpV_done ?_
        have F9 := Lib.hid f9
        clear y0 y1 y2 y3
        go_wp2_with fail
        go_meet
        exact ⟨rfl, F9.out⟩
      case rest =>
        obtain ⟨rfl, hwc⟩ := hcut
        have b1 := BA.out.keep hwc (fun h => h)
        have i0 := b1.c0
        have i1 := b1.c1
        clear b1
        go_wp2_with fail
        refine (setHas_any aa ca la 64 n _ (SA.out.keep hwc (fun _ _ h => h)) GA.out).mono ?_
        rintro e w2 ⟨rfl, f2⟩
        have f2 := Gr.trans hwc f2
        have B2 := BA.out.keep f2 (fun h => h)
        clear i0 i1 hwc
        have i0 := B2.c0
        have i1 := B2.c1
        by_cases hh : has la n = true
        · rw [hh]
          have FW := Lib.hid (Gr.trans FR.out f2)
          clear hh f2 i0 i1 B2
          go_wp2_with fail
          go_ret
          exact ⟨rfl, FW.out⟩
        · have hh : has la n = false := eq_false_of_ne_true hh
          obtain ⟨hD1, hD2, hD3⟩ := add_drop GA.out hlen hh
          rw [hh]
          clear hh
          by_cases h1 : 1 ≤ n
          · by_cases h2 : n ≤ 65535
            · have hd1 : decide (1 ≤ n) = true := by simpa using h1
              have hd2 : decide (n ≤ 65535) = true := by simpa using h2
              rw [show sAddOk la 64 n = true by rw [hD3]; simp; omega] at hD2
              have A1 : Hid (∀ w, Gr wr w → Calls Try.prog 50 #[setV aa la.length ca 64, .int .i64 n] w (SetOut2 aa (sAdd la 64 n) 64 true w)) := Lib.hid (fun w hw => by
                have := setAdd_any aa ca la 64 n w (SA.out.keep hw (fun _ _ h => h)) GA.out
                rw [show sAddOk la 64 n = true by rw [hD3]; simp; omega] at this; exact this)
              have A2 : Hid (∀ a c w, SlA w a (sAdd la 64 n).length c (ints (sAdd la 64 n)) → Calls Try.prog 55 #[setV a (sAdd la 64 n).length c 64, .int .i64 n] w (SetOut2 a la 64 true w)) := Lib.hid (fun a c w hw => by
                have := setDrop_any a c (sAdd la 64 n) 64 n w hw (GA.out.add n)
                rw [hD1, hD2] at this; exact this)
              clear hD1 hD2 hD3
              generalize sAdd la 64 n = l1 at A1 A2
              go_wp2_with fail
              refine (A1.out _ f2).mono ?_
              rintro e w3 ⟨a3, c3, rfl, h3, f3, -⟩
              have f3 := Gr.trans f2 f3
              have f4 := f3.trans (gr_alloc w3 (.cells #[.slice a3 l1.length c3, .int .i64 64] 80))
              have h4 := h3.keep (gr_alloc w3 (.cells #[.slice a3 l1.length c3, .int .i64 64] 80)) (fun _ _ h => h)
              have F4 := Lib.hid f4
              have H4 := Lib.hid h4
              clear i0 i1 f2 f3 f4 h3 h4 B2
              go_wp2_with fail
              refine (A2.out a3 c3 _ H4.out).mono ?_
              rintro e w5 ⟨a5, c5, rfl, h5, f5, -⟩
              have f5 := Gr.trans F4.out f5
              have f6 := f5.trans (gr_alloc w5 (.cells #[.slice a5 la.length c5, .int .i64 64] 80))
              have h6 := h5.keep (gr_alloc w5 (.cells #[.slice a5 la.length c5, .int .i64 64] 80)) (fun _ _ h => h)
              have b6 := box_new w5 (.slice a5 la.length c5) (.int .i64 64) 80
              have bA := BA.out.keep f6 (fun h => h)
              have FF := Lib.hid f6
              have H6 := Lib.hid h6
              have B6 := Lib.hid b6
              have BA6 := Lib.hid bA
              clear f5 f6 h5 h6 b6 bA F4 H4 A1 A2
              go_wp2_with fail
              generalize w5.alloc (.cells #[.slice a5 la.length c5, .int .i64 64] 80) = w6 at *
              generalize w5.heap.size = kd at *
              haveI : Nonempty (WC (Fr (fun _ => False) w6)) := ⟨⟨w6, Fr.refl _ _⟩⟩
              have y0 : ∀ z : WC (Fr (fun _ => False) w6), z.val.cell? ⟨kA, 0, none⟩ = some (.slice aa la.length ca) := fun z => z.ok.cell BA6.out.c0 (fun h => h)
              have y1 : ∀ z : WC (Fr (fun _ => False) w6), z.val.cell? ⟨kA, 1, none⟩ = some (.int .i64 64) := fun z => z.ok.cell BA6.out.c1 (fun h => h)
              have y2 : ∀ z : WC (Fr (fun _ => False) w6), z.val.cell? ⟨kd, 0, none⟩ = some (.slice a5 la.length c5) := fun z => z.ok.cell B6.out.c0 (fun h => h)
              have y3 : ∀ z : WC (Fr (fun _ => False) w6), z.val.cell? ⟨kd, 1, none⟩ = some (.int .i64 64) := fun z => z.ok.cell B6.out.c1 (fun h => h)
              refine wp_region_plan [15, 17, 18] (Plan.seq [0, 1, 2, 3, 4, 5, 6, 7, 8, 9, 10, 11, 12, 13, 14, 16, 15, 17, 18, 19, 20] .done) (fun w' => ∃ z : WC (Fr (fun _ => False) w6), w' = z.val) (by kernel_rfl) (by kernel_rfl) (fun c a w d v h => by cases d <;> exact h) (fun c a w d v h => by cases d <;> exact h) ⟨⟨w6.drew, (Fr.refl _ _).drew⟩, rfl⟩ ?_
              simp only [Plan.seq, List.foldr]
              repeat (refine wpV_q (by simp only [List.getElem?_toArray, List.getElem?_cons_succ, List.getElem?_cons_zero] <;> rfl) (by rfl) (by rfl) ?_; go_big_quiet_step (fail); refine wpQuiet_nil ?_)
              refine wpV_e (by simp only [List.getElem?_toArray, List.getElem?_cons_succ, List.getElem?_cons_zero] <;> rfl) (by rfl) ?_
              go_wp2_with fail
              refine (setAll_any a5 c5 la 64 _ (H6.out.keep (Fr.refl (fun _ => False) w6).drew (fun _ _ h => h)) GA.out).mono ?_
              rintro e w7 ⟨v, rfl, ho, hb⟩
              obtain ⟨a7, c7, rfl, h7, -⟩ := SlA.of_own ho
              have f7 : Gr w6 w7 := Fr.trans ((Fr.refl (fun _ => False) w6).drew) (Gr.of_below hb) (fun _ h => h.elim)
              clear ho hb
              have H7 := Lib.hid h7; clear h7
              go_wp2_with fail
              refine ⟨⟨⟨w7, f7⟩, rfl⟩, ?_⟩
              refine wpV_e (by simp only [List.getElem?_toArray, List.getElem?_cons_succ, List.getElem?_cons_zero] <;> rfl) (by rfl) ?_
              go_wp2_with fail
              refine (setAll_any aa ca la 64 _ (SA.out.keep (Gr.trans FF.out f7) (fun _ _ h => h)) GA.out).mono ?_
              rintro e w8 ⟨v, rfl, ho, hb⟩
              obtain ⟨a8, c8, rfl, h8, -⟩ := SlA.of_own ho
              have g8 := Gr.of_below hb
              have f8 : Gr w6 w8 := Fr.trans f7 g8 (fun _ h => h.elim)
              have H7' := Lib.hid (H7.out.keep g8 (fun _ _ h => h))
              have H8 := Lib.hid h8
              clear ho hb h8 g8
              go_wp2_with fail
              refine ⟨⟨⟨w8, f8⟩, rfl⟩, ?_⟩
              refine wpV_e (by simp only [List.getElem?_toArray, List.getElem?_cons_succ, List.getElem?_cons_zero] <;> rfl) (by rfl) ?_
              go_wp2_with fail
              refine (refSame_any a7 c7 la a8 c8 la _ H7'.out H8.out).mono ?_
              rintro e w9 ⟨rfl, q9, rfl⟩
              rw [(same_iff la la).2 rfl]
              have f9 := f8.drewN q9
              go_wp2_with fail
              refine ⟨⟨⟨_, f9⟩, rfl⟩, ?_⟩
              repeat (refine wpV_q (by simp only [List.getElem?_toArray, List.getElem?_cons_succ, List.getElem?_cons_zero] <;> rfl) (by rfl) (by rfl) ?_; go_big_quiet_step (fail); refine wpQuiet_nil ?_)
              refine wpV_done ?_
              have F9 : Hid (Gr W _) := Lib.hid (Gr.trans FR.out (Gr.trans FF.out f9))
              clear y0 y1 y2 y3 f7 f8 f9
              go_wp2_with fail
              go_ret
              exact ⟨rfl, F9.out⟩
            · have hd1 : decide (1 ≤ n) = true := by simpa using h1
              have hd2 : decide (n ≤ 65535) = false := by simpa using h2
              rw [show sAddOk la 64 n = false by rw [hD3]; simp; omega] at hD2
              have A1 : Hid (∀ w, Gr wr w → Calls Try.prog 50 #[setV aa la.length ca 64, .int .i64 n] w (SetOut2 aa (sAdd la 64 n) 64 false w)) := Lib.hid (fun w hw => by
                have := setAdd_any aa ca la 64 n w (SA.out.keep hw (fun _ _ h => h)) GA.out
                rw [show sAddOk la 64 n = false by rw [hD3]; simp; omega] at this; exact this)
              have A2 : Hid (∀ a c w, SlA w a (sAdd la 64 n).length c (ints (sAdd la 64 n)) → Calls Try.prog 55 #[setV a (sAdd la 64 n).length c 64, .int .i64 n] w (SetOut2 a la 64 false w)) := Lib.hid (fun a c w hw => by
                have := setDrop_any a c (sAdd la 64 n) 64 n w hw (GA.out.add n)
                rw [hD1, hD2] at this; exact this)
              clear hD1 hD2 hD3
              generalize sAdd la 64 n = l1 at A1 A2
              go_wp2_with fail
              refine (A1.out _ f2).mono ?_
              rintro e w3 ⟨a3, c3, rfl, h3, f3, -⟩
              have f3 := Gr.trans f2 f3
              have f4 := f3.trans (gr_alloc w3 (.cells #[.slice a3 l1.length c3, .int .i64 64] 80))
              have h4 := h3.keep (gr_alloc w3 (.cells #[.slice a3 l1.length c3, .int .i64 64] 80)) (fun _ _ h => h)
              have F4 := Lib.hid f4
              have H4 := Lib.hid h4
              clear i0 i1 f2 f3 f4 h3 h4 B2
              go_wp2_with fail
              refine (A2.out a3 c3 _ H4.out).mono ?_
              rintro e w5 ⟨a5, c5, rfl, h5, f5, -⟩
              have f5 := Gr.trans F4.out f5
              have f6 := f5.trans (gr_alloc w5 (.cells #[.slice a5 la.length c5, .int .i64 64] 80))
              have h6 := h5.keep (gr_alloc w5 (.cells #[.slice a5 la.length c5, .int .i64 64] 80)) (fun _ _ h => h)
              have b6 := box_new w5 (.slice a5 la.length c5) (.int .i64 64) 80
              have bA := BA.out.keep f6 (fun h => h)
              have FF := Lib.hid f6
              have H6 := Lib.hid h6
              have B6 := Lib.hid b6
              have BA6 := Lib.hid bA
              clear f5 f6 h5 h6 b6 bA F4 H4 A1 A2
              go_wp2_with fail
              generalize w5.alloc (.cells #[.slice a5 la.length c5, .int .i64 64] 80) = w6 at *
              generalize w5.heap.size = kd at *
              haveI : Nonempty (WC (Fr (fun _ => False) w6)) := ⟨⟨w6, Fr.refl _ _⟩⟩
              have y0 : ∀ z : WC (Fr (fun _ => False) w6), z.val.cell? ⟨kA, 0, none⟩ = some (.slice aa la.length ca) := fun z => z.ok.cell BA6.out.c0 (fun h => h)
              have y1 : ∀ z : WC (Fr (fun _ => False) w6), z.val.cell? ⟨kA, 1, none⟩ = some (.int .i64 64) := fun z => z.ok.cell BA6.out.c1 (fun h => h)
              have y2 : ∀ z : WC (Fr (fun _ => False) w6), z.val.cell? ⟨kd, 0, none⟩ = some (.slice a5 la.length c5) := fun z => z.ok.cell B6.out.c0 (fun h => h)
              have y3 : ∀ z : WC (Fr (fun _ => False) w6), z.val.cell? ⟨kd, 1, none⟩ = some (.int .i64 64) := fun z => z.ok.cell B6.out.c1 (fun h => h)
              refine wp_region_plan [15, 17, 18] (Plan.seq [0, 1, 2, 3, 4, 5, 6, 7, 8, 9, 10, 11, 12, 13, 14, 16, 15, 17, 18, 19, 20] .done) (fun w' => ∃ z : WC (Fr (fun _ => False) w6), w' = z.val) (by kernel_rfl) (by kernel_rfl) (fun c a w d v h => by cases d <;> exact h) (fun c a w d v h => by cases d <;> exact h) ⟨⟨w6.drew, (Fr.refl _ _).drew⟩, rfl⟩ ?_
              simp only [Plan.seq, List.foldr]
              repeat (refine wpV_q (by simp only [List.getElem?_toArray, List.getElem?_cons_succ, List.getElem?_cons_zero] <;> rfl) (by rfl) (by rfl) ?_; go_big_quiet_step (fail); refine wpQuiet_nil ?_)
              refine wpV_e (by simp only [List.getElem?_toArray, List.getElem?_cons_succ, List.getElem?_cons_zero] <;> rfl) (by rfl) ?_
              go_wp2_with fail
              refine (setAll_any a5 c5 la 64 _ (H6.out.keep (Fr.refl (fun _ => False) w6).drew (fun _ _ h => h)) GA.out).mono ?_
              rintro e w7 ⟨v, rfl, ho, hb⟩
              obtain ⟨a7, c7, rfl, h7, -⟩ := SlA.of_own ho
              have f7 : Gr w6 w7 := Fr.trans ((Fr.refl (fun _ => False) w6).drew) (Gr.of_below hb) (fun _ h => h.elim)
              clear ho hb
              have H7 := Lib.hid h7; clear h7
              go_wp2_with fail
              refine ⟨⟨⟨w7, f7⟩, rfl⟩, ?_⟩
              refine wpV_e (by simp only [List.getElem?_toArray, List.getElem?_cons_succ, List.getElem?_cons_zero] <;> rfl) (by rfl) ?_
              go_wp2_with fail
              refine (setAll_any aa ca la 64 _ (SA.out.keep (Gr.trans FF.out f7) (fun _ _ h => h)) GA.out).mono ?_
              rintro e w8 ⟨v, rfl, ho, hb⟩
              obtain ⟨a8, c8, rfl, h8, -⟩ := SlA.of_own ho
              have g8 := Gr.of_below hb
              have f8 : Gr w6 w8 := Fr.trans f7 g8 (fun _ h => h.elim)
              have H7' := Lib.hid (H7.out.keep g8 (fun _ _ h => h))
              have H8 := Lib.hid h8
              clear ho hb h8 g8
              go_wp2_with fail
              refine ⟨⟨⟨w8, f8⟩, rfl⟩, ?_⟩
              refine wpV_e (by simp only [List.getElem?_toArray, List.getElem?_cons_succ, List.getElem?_cons_zero] <;> rfl) (by rfl) ?_
              go_wp2_with fail
              refine (refSame_any a7 c7 la a8 c8 la _ H7'.out H8.out).mono ?_
              rintro e w9 ⟨rfl, q9, rfl⟩
              rw [(same_iff la la).2 rfl]
              have f9 := f8.drewN q9
              go_wp2_with fail
              refine ⟨⟨⟨_, f9⟩, rfl⟩, ?_⟩
              repeat (refine wpV_q (by simp only [List.getElem?_toArray, List.getElem?_cons_succ, List.getElem?_cons_zero] <;> rfl) (by rfl) (by rfl) ?_; go_big_quiet_step (fail); refine wpQuiet_nil ?_)
              refine wpV_done ?_
              have F9 : Hid (Gr W _) := Lib.hid (Gr.trans FR.out (Gr.trans FF.out f9))
              clear y0 y1 y2 y3 f7 f8 f9
              go_wp2_with fail
              go_ret
              exact ⟨rfl, F9.out⟩
          · have hd1 : decide (1 ≤ n) = false := by simpa using h1
            rw [show sAddOk la 64 n = false by rw [hD3]; simp; omega] at hD2
            have A1 : Hid (∀ w, Gr wr w → Calls Try.prog 50 #[setV aa la.length ca 64, .int .i64 n] w (SetOut2 aa (sAdd la 64 n) 64 false w)) := Lib.hid (fun w hw => by
              have := setAdd_any aa ca la 64 n w (SA.out.keep hw (fun _ _ h => h)) GA.out
              rw [show sAddOk la 64 n = false by rw [hD3]; simp; omega] at this; exact this)
            have A2 : Hid (∀ a c w, SlA w a (sAdd la 64 n).length c (ints (sAdd la 64 n)) → Calls Try.prog 55 #[setV a (sAdd la 64 n).length c 64, .int .i64 n] w (SetOut2 a la 64 false w)) := Lib.hid (fun a c w hw => by
              have := setDrop_any a c (sAdd la 64 n) 64 n w hw (GA.out.add n)
              rw [hD1, hD2] at this; exact this)
            clear hD1 hD2 hD3
            generalize sAdd la 64 n = l1 at A1 A2
            go_wp2_with fail
            refine (A1.out _ f2).mono ?_
            rintro e w3 ⟨a3, c3, rfl, h3, f3, -⟩
            have f3 := Gr.trans f2 f3
            have f4 := f3.trans (gr_alloc w3 (.cells #[.slice a3 l1.length c3, .int .i64 64] 80))
            have h4 := h3.keep (gr_alloc w3 (.cells #[.slice a3 l1.length c3, .int .i64 64] 80)) (fun _ _ h => h)
            have F4 := Lib.hid f4
            have H4 := Lib.hid h4
            clear i0 i1 f2 f3 f4 h3 h4 B2
            go_wp2_with fail
            refine (A2.out a3 c3 _ H4.out).mono ?_
            rintro e w5 ⟨a5, c5, rfl, h5, f5, -⟩
            have f5 := Gr.trans F4.out f5
            have f6 := f5.trans (gr_alloc w5 (.cells #[.slice a5 la.length c5, .int .i64 64] 80))
            have h6 := h5.keep (gr_alloc w5 (.cells #[.slice a5 la.length c5, .int .i64 64] 80)) (fun _ _ h => h)
            have b6 := box_new w5 (.slice a5 la.length c5) (.int .i64 64) 80
            have bA := BA.out.keep f6 (fun h => h)
            have FF := Lib.hid f6
            have H6 := Lib.hid h6
            have B6 := Lib.hid b6
            have BA6 := Lib.hid bA
            clear f5 f6 h5 h6 b6 bA F4 H4 A1 A2
            go_wp2_with fail
            generalize w5.alloc (.cells #[.slice a5 la.length c5, .int .i64 64] 80) = w6 at *
            generalize w5.heap.size = kd at *
            haveI : Nonempty (WC (Fr (fun _ => False) w6)) := ⟨⟨w6, Fr.refl _ _⟩⟩
            have y0 : ∀ z : WC (Fr (fun _ => False) w6), z.val.cell? ⟨kA, 0, none⟩ = some (.slice aa la.length ca) := fun z => z.ok.cell BA6.out.c0 (fun h => h)
            have y1 : ∀ z : WC (Fr (fun _ => False) w6), z.val.cell? ⟨kA, 1, none⟩ = some (.int .i64 64) := fun z => z.ok.cell BA6.out.c1 (fun h => h)
            have y2 : ∀ z : WC (Fr (fun _ => False) w6), z.val.cell? ⟨kd, 0, none⟩ = some (.slice a5 la.length c5) := fun z => z.ok.cell B6.out.c0 (fun h => h)
            have y3 : ∀ z : WC (Fr (fun _ => False) w6), z.val.cell? ⟨kd, 1, none⟩ = some (.int .i64 64) := fun z => z.ok.cell B6.out.c1 (fun h => h)
            refine wp_region_plan [15, 17, 18] (Plan.seq [0, 1, 2, 3, 4, 5, 6, 7, 8, 9, 10, 11, 12, 13, 14, 16, 15, 17, 18, 19, 20] .done) (fun w' => ∃ z : WC (Fr (fun _ => False) w6), w' = z.val) (by kernel_rfl) (by kernel_rfl) (fun c a w d v h => by cases d <;> exact h) (fun c a w d v h => by cases d <;> exact h) ⟨⟨w6.drew, (Fr.refl _ _).drew⟩, rfl⟩ ?_
            simp only [Plan.seq, List.foldr]
            repeat (refine wpV_q (by simp only [List.getElem?_toArray, List.getElem?_cons_succ, List.getElem?_cons_zero] <;> rfl) (by rfl) (by rfl) ?_; go_big_quiet_step (fail); refine wpQuiet_nil ?_)
            refine wpV_e (by simp only [List.getElem?_toArray, List.getElem?_cons_succ, List.getElem?_cons_zero] <;> rfl) (by rfl) ?_
            go_wp2_with fail
            refine (setAll_any a5 c5 la 64 _ (H6.out.keep (Fr.refl (fun _ => False) w6).drew (fun _ _ h => h)) GA.out).mono ?_
            rintro e w7 ⟨v, rfl, ho, hb⟩
            obtain ⟨a7, c7, rfl, h7, -⟩ := SlA.of_own ho
            have f7 : Gr w6 w7 := Fr.trans ((Fr.refl (fun _ => False) w6).drew) (Gr.of_below hb) (fun _ h => h.elim)
            clear ho hb
            have H7 := Lib.hid h7; clear h7
            go_wp2_with fail
            refine ⟨⟨⟨w7, f7⟩, rfl⟩, ?_⟩
            refine wpV_e (by simp only [List.getElem?_toArray, List.getElem?_cons_succ, List.getElem?_cons_zero] <;> rfl) (by rfl) ?_
            go_wp2_with fail
            refine (setAll_any aa ca la 64 _ (SA.out.keep (Gr.trans FF.out f7) (fun _ _ h => h)) GA.out).mono ?_
            rintro e w8 ⟨v, rfl, ho, hb⟩
            obtain ⟨a8, c8, rfl, h8, -⟩ := SlA.of_own ho
            have g8 := Gr.of_below hb
            have f8 : Gr w6 w8 := Fr.trans f7 g8 (fun _ h => h.elim)
            have H7' := Lib.hid (H7.out.keep g8 (fun _ _ h => h))
            have H8 := Lib.hid h8
            clear ho hb h8 g8
            go_wp2_with fail
            refine ⟨⟨⟨w8, f8⟩, rfl⟩, ?_⟩
            refine wpV_e (by simp only [List.getElem?_toArray, List.getElem?_cons_succ, List.getElem?_cons_zero] <;> rfl) (by rfl) ?_
            go_wp2_with fail
            refine (refSame_any a7 c7 la a8 c8 la _ H7'.out H8.out).mono ?_
            rintro e w9 ⟨rfl, q9, rfl⟩
            rw [(same_iff la la).2 rfl]
            have f9 := f8.drewN q9
            go_wp2_with fail
            refine ⟨⟨⟨_, f9⟩, rfl⟩, ?_⟩
            repeat (refine wpV_q (by simp only [List.getElem?_toArray, List.getElem?_cons_succ, List.getElem?_cons_zero] <;> rfl) (by rfl) (by rfl) ?_; go_big_quiet_step (fail); refine wpQuiet_nil ?_)
            refine wpV_done ?_
            have F9 : Hid (Gr W _) := Lib.hid (Gr.trans FR.out (Gr.trans FF.out f9))
            clear y0 y1 y2 y3 f7 f8 f9
            go_wp2_with fail
            go_ret
            exact ⟨rfl, F9.out⟩
end Go.Proofs.Ytoniebocphjmgaa
