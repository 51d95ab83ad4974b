/-
  The closure of PackWrites that reads the parts again.
-/
import Derived.Test.YtoniebocphjmgaaPackWritesC
namespace Go.Proofs.Ytoniebocphjmgaa
open Go.RowKit Go.Proofs

theorem getNum_from (k : Nat) : ∀ n a : Nat, (bigEnd k n).foldl (fun n b => 256 * n + b.toNat) a = a * 256 ^ k + n % 256 ^ k := by
  induction k with
  | zero => intro n a; simp [bigEnd, Nat.mod_one]
  | succ k ih =>
    intro n a
    simp only [bigEnd, List.foldl_cons, ih, UInt8.toNat_ofNat']
    have h1 : n % 256 ^ (k + 1) = n / 256 ^ k % 256 * 256 ^ k + n % 256 ^ k := by
      rw [Nat.pow_succ, Nat.mod_mul, Nat.mul_comm (256 ^ k) (n / 256 ^ k % 256), Nat.add_comm]
    have h2 : a * 256 ^ (k + 1) = 256 * a * 256 ^ k := by
      rw [Nat.pow_succ, ← Nat.mul_assoc, Nat.mul_right_comm, Nat.mul_comm a 256]
    have h3 : (2 : Nat) ^ 8 = 256 := rfl
    rw [h3, h1, h2, Nat.add_mul]
    omega
theorem getNum_bigEnd {k n : Nat} (h : n < 256 ^ k) : getNum (bigEnd k n) = n := by
  unfold getNum
  rw [getNum_from, Nat.mod_eq_of_lt h]; omega

theorem ext_head (p r : List UInt8) (n : Nat) (h : n = p.length) : (ByteArray.mk (p ++ r).toArray).extract 0 n = ⟨p.toArray⟩ := by
  subst h
  apply ByteArray.ext; simp
theorem ext_tail (p r : List UInt8) (n m : Nat) (h : n = p.length) (hm : m = (p ++ r).length) : (ByteArray.mk (p ++ r).toArray).extract n m = ⟨r.toArray⟩ := by
  subst h hm
  apply ByteArray.ext; simp

structure RdW (w0 : World) (b S : Nat) (w : World) (s : ByteArray) : Prop where
  rd : RdAt w b s
  cS : w.cell? ⟨S, 0, none⟩ = some (.bool true)
  zS : w.frozen? ⟨S, 0, none⟩ = false
  fr : Fr (fun k => k = b ∨ k = S) w0 w

theorem RdW.go {w0 : World} {b S : Nat} {w w1 : World} {s s' : ByteArray} (h : RdW w0 b S w s) (f : Fr (· = b) w w1) (r : RdAt w1 b s') (hbS : b ≠ S) : RdW w0 b S w1 s' :=
  ⟨r, f.cell h.cS (fun e => hbS e.symm), (f.frozen h.cS (fun e => hbS e.symm)).trans h.zS, h.fr.trans f (fun _ hk => .inl (.inl hk))⟩
theorem RdW.flag {w0 : World} {b S : Nat} {w : World} {s : ByteArray} (h : RdW w0 b S w s) (hbS : b ≠ S) : RdW w0 b S (w.setCell ⟨S, 0, none⟩ (.bool true)) s := by
  have f : Fr (fun k => k = S) w (w.setCell ⟨S, 0, none⟩ (.bool true)) := (Fr.refl (fun k => k = S) w).setCell (p := ⟨S, 0, none⟩) (.inl rfl) _
  exact ⟨RdAt.keep h.rd f hbS, World.cell?_setCell_same _ _ _ h.cS, by rw [World.frozen?_setCell]; exact h.zS, h.fr.trans f (fun k hk => .inl (.inr hk))⟩

theorem bad_kind {x : Part} (h : partBad x = 0) (h0 : partKind x ≠ 0) (h1 : partKind x ≠ 1) : partKind x = 2 := by
  have := kind_range x
  unfold partBad at h
  rw [if_neg h0, if_neg h1] at h
  by_cases h2 : partKind x = 2
  · exact h2
  · rw [if_neg h2] at h
    split at h <;> omega

set_option maxHeartbeats 2000000 in
set_option maxRecDepth 100000 in
theorem writes2_any (b L S : Nat) (al : Option Addr) (cl : Nat) (l : List Part) (w0 : World) (h0 : RdW w0 b S w0 ⟨(writes l).1.toArray⟩) (cL : w0.cell? ⟨L, 0, none⟩ = some (.slice al l.length cl))
    (hbS : b ≠ S) (hLb : L ≠ b) (hLS : L ≠ S) (hPA : l ≠ [] → ∀ p, al = some p → p.block ≠ b ∧ p.block ≠ S)
    (hal : SlA w0 al l.length cl (l.flatMap Part.cells)) (hlen : l.length ≤ 12) (hfit : ∀ p ∈ l, p.fits) (hbulk : ∀ p ∈ l, p.text.size ≤ 1048576) (hok : (writes l).2 = 0) :
    Calls Try.prog 35 #[.pointer (some ⟨b, 0, none⟩), .pointer (some ⟨L, 0, none⟩), .pointer (some ⟨S, 0, none⟩)] w0
      fun e w' => RdW w0 b S w' ByteArray.empty ∧ e = .returned (.tuple #[]) := by
  have H0 := Lib.hid h0; clear h0
  have HAL := Lib.hid hal; clear hal
  have HF := Lib.hid hfit; clear hfit
  have HBK := Lib.hid hbulk; clear hbulk
  have HPA := Lib.hid hPA; clear hPA
  have HOK := Lib.hid hok; clear hok
  go_enter Try.func35, Try.ntmps35
  go_wp2_with fail
  go_loopw [4] (fun iv wr => ∃ (i : Nat), iv = .int .i64 i ∧ i ≤ l.length ∧ RdW w0 b S wr ⟨(writes (l.drop i)).1.toArray⟩ ∧ (writes (l.drop i)).2 = 0) (fun iv _ => l.length - (intOf iv).toNat)
  case atStart => exact ⟨0, rfl, Nat.zero_le _, H0.out, HOK.out⟩
  case round =>
    obtain ⟨i, rfl, hi, hw, hok⟩ := hrel
    have q1 := hw.fr.cell cL (by simp [hLS, hLb])
    have HW := Lib.hid hw; clear hw
    have HO := Lib.hid hok; clear hok
    by_cases hil : i < l.length
    · have hp := HF.out _ (List.getElem_mem hil)
      have hbk := HBK.out _ (List.getElem_mem hil)
      have hpl := part_len _ hbk
      have e1 := HW.out
      have e2 := HO.out
      rw [drop_part hil] at e1 e2
      obtain ⟨g, o, rfl, hc0, hc1, hc2, hc3⟩ := part_cells (HAL.out.keep HW.out.fr (by intro p hp; have := HPA.out (fun h => by rw [h] at hil; exact absurd hil (Nat.not_lt_zero _)) p hp; intro h; rcases h with h | h; exact this.1 h; exact this.2 h)) hil
      generalize l[i] = x at *
      have hb0 : partBad x = 0 := by
        apply Classical.byContradiction
        intro h
        rw [writes_stop h] at e2
        exact h e2
      rw [writes_go hb0] at e1 e2
      simp only at e1 e2
      obtain ⟨r, hr⟩ : ∃ r, (writes (l.drop (i + 1))).1 = r := ⟨_, rfl⟩
      rw [hr] at e1
      have HR := Lib.hid hr; clear hr
      have hrd := e1.rd.2.2
      have E1 := Lib.hid e1; clear e1
      have E2 := Lib.hid e2; clear e2
      have ht := tmod4 x.what
      have hx1 := Go.bounds_i64 hp.1
      have hx2 := Go.bounds_u64 hp.2.1
      have hx3 := Go.bounds_i64 hp.2.2.1
      obtain ⟨w1, hw1⟩ : ∃ w1, w1 = wr.alloc (.cells #[.int .i64 x.what, .int .u64 x.n, .int .i64 x.size, .string x.text] 52) := ⟨_, rfl⟩
      have d1 : w1.cell? ⟨wr.heap.size, 1, none⟩ = some (.int .u64 x.n) := by rw [hw1, World.cell?_alloc_at _ _ _ _ rfl]; rfl
      have d2 : w1.cell? ⟨wr.heap.size, 2, none⟩ = some (.int .i64 x.size) := by rw [hw1, World.cell?_alloc_at _ _ _ _ rfl]; rfl
      have d3 : w1.cell? ⟨wr.heap.size, 3, none⟩ = some (.string x.text) := by rw [hw1, World.cell?_alloc_at _ _ _ _ rfl]; rfl
      have fa : Fr (· = b) wr w1 := by rw [hw1]; exact (Fr.refl _ _).alloc _
      have hne : wr.heap.size ≠ b := by have := lt_of_cell E1.out.rd.1; simp only at this; omega
      have hneS : wr.heap.size ≠ S := by have := lt_of_cell E1.out.cS; simp only at this; omega
      have hra : RdAt w1 b ⟨(partBytes x ++ r).toArray⟩ := by
        have := E1.out.rd
        refine ⟨?_, ?_, this.2.2⟩
        · rw [hw1]; exact Lib.cell?_alloc_some _ this.1
        · rw [hw1, World.frozen?_of_block (w := wr) (Below.heap_alloc _ _ _ (lt_of_cell this.1))]; exact this.2.1
      have hw1' := E1.out.go fa hra hbS
      have W1 := Lib.hid hw1'; clear hw1'
      have hcs := W1.out.cS
      have hsz : (partBytes x ++ r).length = (ByteArray.mk (partBytes x ++ r).toArray).size := by simp [ByteArray.size]
      have HSZ := Lib.hid hsz; clear hsz
      generalize hPB : wr.heap.size = PB at *
      by_cases k0 : partKind x = 0
      · have hok : NumOk x.n.toNat x.size := by
          apply Classical.byContradiction
          intro h
          unfold partBad at hb0
          rw [if_pos k0, if_pos ((bytes_nil_or _ _).2 h)] at hb0
          cases hb0
        have hby : partBytes x = bigEnd x.size.toNat x.n.toNat := by unfold partBytes; rw [if_pos k0, bytes_ok hok]
        rw [hby] at W1 HSZ
        clear hby hb0 hpl
        rw [kind_eq] at k0
        obtain ⟨z, hz⟩ : ∃ z : Nat, x.size = z := ⟨x.size.toNat, by have := hok.1; omega⟩
        have hzn : x.size.toNat = z := by omega
        have hok1 := hok.1
        have hok2 := hok.2.1
        have hgn := getNum_bigEnd hok.2.2
        have hbl := bigEnd_length x.size.toNat x.n.toNat
        rw [hzn] at W1 HSZ hgn hbl
        have hcall := readerNum_ok b z _ w1.drew ⟨W1.out.rd.1, W1.out.rd.2.1, W1.out.rd.2.2⟩ (by omega) (by omega) (by rw [← HSZ.out]; simp; omega)
        rw [ext_head _ _ z hbl.symm, ext_tail _ _ z _ hbl.symm HSZ.out.symm, hgn, show ((x.n.toNat : Nat) : Int) = x.n by omega, ← hz] at hcall
        clear hgn hbl hok hzn hz HSZ
        have HCALL := Lib.hid hcall; clear hcall
        have WD := Lib.hid (show RdW w0 b S w1.drew _ from ⟨⟨W1.out.rd.1, W1.out.rd.2.1, W1.out.rd.2.2⟩, W1.out.cS, W1.out.zS, W1.out.fr.drew⟩)
        haveI : Nonempty (WC (fun w => w.cell? ⟨S, 0, none⟩ = some (.bool true) ∧ w.cell? ⟨PB, 1, none⟩ = some (.int .u64 x.n) ∧ w.cell? ⟨PB, 2, none⟩ = some (.int .i64 x.size))) := ⟨⟨w1, hcs, d1, d2⟩⟩
        have y1 : ∀ z : WC (fun w => w.cell? ⟨S, 0, none⟩ = some (.bool true) ∧ w.cell? ⟨PB, 1, none⟩ = some (.int .u64 x.n) ∧ w.cell? ⟨PB, 2, none⟩ = some (.int .i64 x.size)), z.val.cell? ⟨S, 0, none⟩ = some (.bool true) := fun z => z.ok.1
        have y2 : ∀ z : WC (fun w => w.cell? ⟨S, 0, none⟩ = some (.bool true) ∧ w.cell? ⟨PB, 1, none⟩ = some (.int .u64 x.n) ∧ w.cell? ⟨PB, 2, none⟩ = some (.int .i64 x.size)), z.val.cell? ⟨PB, 1, none⟩ = some (.int .u64 x.n) := fun z => z.ok.2.1
        have y3 : ∀ z : WC (fun w => w.cell? ⟨S, 0, none⟩ = some (.bool true) ∧ w.cell? ⟨PB, 1, none⟩ = some (.int .u64 x.n) ∧ w.cell? ⟨PB, 2, none⟩ = some (.int .i64 x.size)), z.val.cell? ⟨PB, 2, none⟩ = some (.int .i64 x.size) := fun z => z.ok.2.2
        go_wp2_with fail
        rw [← hw1]
        clear hw1
        refine wp_region_last 10 [5] [] (fun w' => ∃ z : WC (fun w => w.cell? ⟨S, 0, none⟩ = some (.bool true) ∧ w.cell? ⟨PB, 1, none⟩ = some (.int .u64 x.n) ∧ w.cell? ⟨PB, 2, none⟩ = some (.int .i64 x.size)), w' = z.val) (by kernel_rfl) (by kernel_rfl) (fun c a w d v h => by cases d <;> exact h) (fun c a w d v h => by cases d <;> exact h) ⟨⟨w1.drew, hcs, d1, d2⟩, rfl⟩ ?_
        simp only [List.take]
        repeat (refine wpU_q (by rfl) (by rfl) ?_; go_big_quiet_step (fail); refine wpQuiet_nil ?_)
        refine wpU_e (by rfl) ?_
        go_wp2_with fail
        refine HCALL.out.mono ?_
        rintro e w2 ⟨rfl, hr2, hf2⟩
        have hw2 := WD.out.go hf2 hr2 hbS
        have c0 := hw2.cS
        have z0 := hw2.zS
        have c1 := hf2.cell (p := ⟨PB, 1, none⟩) d1 hne
        have c2 := hf2.cell (p := ⟨PB, 2, none⟩) d2 hne
        have W2 := Lib.hid hw2; clear hw2 hr2 hf2
        go_wp2_with fail
        refine ⟨⟨⟨w2, c0, c1, c2⟩, rfl⟩, ?_⟩
        repeat (refine wpU_q (by rfl) (by rfl) ?_; go_big_quiet_step (fail); refine wpQuiet_nil ?_)
        refine wpU_nil ?_
        simp only [lastQ, List.drop]
        clear y1 y2 y3
        have W3 := Lib.hid (W2.out.flag hbS)
        go_wp2_with fail
        go_roundw
        case rel => exact ⟨i + 1, by go_num, by omega, by rw [HR.out]; exact W3.out, E2.out⟩
        case measure => simp [intOf]; omega
      · by_cases k1 : partKind x = 1
        · have hlen : x.text.size ≤ 255 := by
            apply Classical.byContradiction
            intro h
            unfold partBad at hb0
            rw [if_neg k0, if_pos k1, if_pos (by omega)] at hb0
            cases hb0
          have hby : partBytes x = UInt8.ofNat x.text.size :: x.text.data.toList := by unfold partBytes; rw [if_neg k0, if_pos k1]
          rw [hby] at W1 HSZ
          clear hby hb0 hpl
          rw [kind_eq] at k1
          clear k0
          have h256 : (UInt8.ofNat x.text.size).toNat = x.text.size := by rw [UInt8.toNat_ofNat']; exact Nat.mod_eq_of_lt (by omega)
          have hx0 := ext_head [UInt8.ofNat x.text.size] (x.text.data.toList ++ r) 1 rfl
          have hx1' := ext_tail [UInt8.ofNat x.text.size] (x.text.data.toList ++ r) 1 _ rfl HSZ.out.symm
          have hn1 : getNum ((ByteArray.mk ([UInt8.ofNat x.text.size] ++ (x.text.data.toList ++ r)).toArray).extract 0 1).data.toList = x.text.size := by
            rw [hx0]
            show 256 * 0 + (UInt8.ofNat x.text.size).toNat = _
            rw [h256]; omega
          have hcall := readerText_ok b _ x.text.size w1.drew ⟨W1.out.rd.1, W1.out.rd.2.1, W1.out.rd.2.2⟩ (by rw [← HSZ.out]; simp) hn1 (by rw [← HSZ.out]; simp)
          have hx1'' : (ByteArray.mk (UInt8.ofNat x.text.size :: x.text.data.toList ++ r).toArray).extract 1 (ByteArray.mk (UInt8.ofNat x.text.size :: x.text.data.toList ++ r).toArray).size = ⟨(x.text.data.toList ++ r).toArray⟩ := hx1'
          rw [hx1'', ext_head _ _ x.text.size (by simp), ext_tail _ _ x.text.size _ (by simp) (by show (List.toArray _).size = _; rw [List.size_toArray])] at hcall
          have htx : (ByteArray.mk x.text.data.toList.toArray) = x.text := by apply ByteArray.ext; simp
          rw [htx] at hcall
          clear h256 hx0 hx1' hx1'' hn1 htx HSZ
          have HCALL := Lib.hid hcall; clear hcall
          have WD := Lib.hid (show RdW w0 b S w1.drew _ from ⟨⟨W1.out.rd.1, W1.out.rd.2.1, W1.out.rd.2.2⟩, W1.out.cS, W1.out.zS, W1.out.fr.drew⟩)
          haveI : Nonempty (WC (fun w => w.cell? ⟨S, 0, none⟩ = some (.bool true) ∧ w.cell? ⟨PB, 3, none⟩ = some (.string x.text))) := ⟨⟨w1, hcs, d3⟩⟩
          have y1 : ∀ z : WC (fun w => w.cell? ⟨S, 0, none⟩ = some (.bool true) ∧ w.cell? ⟨PB, 3, none⟩ = some (.string x.text)), z.val.cell? ⟨S, 0, none⟩ = some (.bool true) := fun z => z.ok.1
          have y2 : ∀ z : WC (fun w => w.cell? ⟨S, 0, none⟩ = some (.bool true) ∧ w.cell? ⟨PB, 3, none⟩ = some (.string x.text)), z.val.cell? ⟨PB, 3, none⟩ = some (.string x.text) := fun z => z.ok.2
          go_wp2_with fail
          rw [← hw1]
          clear hw1
          refine wp_region_last 8 [3] [] (fun w' => ∃ z : WC (fun w => w.cell? ⟨S, 0, none⟩ = some (.bool true) ∧ w.cell? ⟨PB, 3, none⟩ = some (.string x.text)), w' = z.val) (by kernel_rfl) (by kernel_rfl) (fun c a w d v h => by cases d <;> exact h) (fun c a w d v h => by cases d <;> exact h) ⟨⟨w1.drew, hcs, d3⟩, rfl⟩ ?_
          simp only [List.take]
          repeat (refine wpU_q (by rfl) (by rfl) ?_; go_big_quiet_step (fail); refine wpQuiet_nil ?_)
          refine wpU_e (by rfl) ?_
          go_wp2_with fail
          refine HCALL.out.mono ?_
          rintro e w2 ⟨rfl, hr2, hf2⟩
          have hw2 := WD.out.go hf2 hr2 hbS
          have c0 := hw2.cS
          have z0 := hw2.zS
          have c1 := hf2.cell (p := ⟨PB, 3, none⟩) d3 hne
          have W2 := Lib.hid hw2; clear hw2 hr2 hf2
          go_wp2_with fail
          refine ⟨⟨⟨w2, c0, c1⟩, rfl⟩, ?_⟩
          repeat (refine wpU_q (by rfl) (by rfl) ?_; go_big_quiet_step (fail); refine wpQuiet_nil ?_)
          refine wpU_nil ?_
          simp only [lastQ, List.drop]
          clear y1 y2
          have W3 := Lib.hid (W2.out.flag hbS)
          go_wp2_with fail
          go_roundw
          case rel => exact ⟨i + 1, by go_num, by omega, by rw [HR.out]; exact W3.out, E2.out⟩
          case measure => simp [intOf]; omega
        · have k2 := bad_kind hb0 k0 k1
          have hby : partBytes x = x.text.data.toList := by unfold partBytes; rw [if_neg k0, if_neg k1]
          rw [hby] at W1 HSZ
          clear hby hb0 hpl k0 k1
          rw [kind_eq] at k2
          have hcall := readerRaw_ok b x.text.size _ w1.drew ⟨W1.out.rd.1, W1.out.rd.2.1, W1.out.rd.2.2⟩ (by rw [← HSZ.out]; simp)
          rw [ext_head _ _ x.text.size (by simp), ext_tail _ _ x.text.size _ (by simp) HSZ.out.symm] at hcall
          have htx : (ByteArray.mk x.text.data.toList.toArray) = x.text := by apply ByteArray.ext; simp
          rw [htx] at hcall
          have hra2 := (show RdAt w1.drew b _ from ⟨W1.out.rd.1, W1.out.rd.2.1, W1.out.rd.2.2⟩).after (s' := ⟨r.toArray⟩) (by rw [← HSZ.out]; show (List.toArray r).size ≤ _; rw [List.size_toArray]; simp)
          have hcall := hcall.mono (fun e w' h => (show e = .returned (.string x.text) ∧ RdAt w' b ⟨r.toArray⟩ ∧ Fr (· = b) w1.drew w' from ⟨h.1, by rw [h.2]; exact hra2, by rw [h.2]; exact (Fr.refl (· = b) w1.drew).setCell (p := ⟨b, 0, none⟩) (.inl rfl) _⟩))
          clear htx HSZ hra2
          have HCALL := Lib.hid hcall; clear hcall
          have WD := Lib.hid (show RdW w0 b S w1.drew _ from ⟨⟨W1.out.rd.1, W1.out.rd.2.1, W1.out.rd.2.2⟩, W1.out.cS, W1.out.zS, W1.out.fr.drew⟩)
          haveI : Nonempty (WC (fun w => w.cell? ⟨S, 0, none⟩ = some (.bool true) ∧ w.cell? ⟨PB, 3, none⟩ = some (.string x.text))) := ⟨⟨w1, hcs, d3⟩⟩
          have y1 : ∀ z : WC (fun w => w.cell? ⟨S, 0, none⟩ = some (.bool true) ∧ w.cell? ⟨PB, 3, none⟩ = some (.string x.text)), z.val.cell? ⟨S, 0, none⟩ = some (.bool true) := fun z => z.ok.1
          have y2 : ∀ z : WC (fun w => w.cell? ⟨S, 0, none⟩ = some (.bool true) ∧ w.cell? ⟨PB, 3, none⟩ = some (.string x.text)), z.val.cell? ⟨PB, 3, none⟩ = some (.string x.text) := fun z => z.ok.2
          go_wp2_with fail
          rw [← hw1]
          clear hw1
          refine wp_region_last 11 [6] [] (fun w' => ∃ z : WC (fun w => w.cell? ⟨S, 0, none⟩ = some (.bool true) ∧ w.cell? ⟨PB, 3, none⟩ = some (.string x.text)), w' = z.val) (by kernel_rfl) (by kernel_rfl) (fun c a w d v h => by cases d <;> exact h) (fun c a w d v h => by cases d <;> exact h) ⟨⟨w1.drew, hcs, d3⟩, rfl⟩ ?_
          simp only [List.take]
          repeat (refine wpU_q (by rfl) (by rfl) ?_; go_big_quiet_step (fail); refine wpQuiet_nil ?_)
          refine wpU_e (by rfl) ?_
          go_wp2_with fail
          refine HCALL.out.mono ?_
          rintro e w2 ⟨rfl, hr2, hf2⟩
          have hw2 := WD.out.go hf2 hr2 hbS
          have c0 := hw2.cS
          have z0 := hw2.zS
          have c1 := hf2.cell (p := ⟨PB, 3, none⟩) d3 hne
          have W2 := Lib.hid hw2; clear hw2 hr2 hf2
          go_wp2_with fail
          refine ⟨⟨⟨w2, c0, c1⟩, rfl⟩, ?_⟩
          repeat (refine wpU_q (by rfl) (by rfl) ?_; go_big_quiet_step (fail); refine wpQuiet_nil ?_)
          refine wpU_nil ?_
          simp only [lastQ, List.drop]
          clear y1 y2
          have W3 := Lib.hid (W2.out.flag hbS)
          go_wp2_with fail
          go_roundw
          case rel => exact ⟨i + 1, by go_num, by omega, by rw [HR.out]; exact W3.out, E2.out⟩
          case measure => simp [intOf]; omega
    · obtain rfl : i = l.length := by omega
      go_wp2_with fail
      go_end0
      have e1 := HW.out
      rw [List.drop_eq_nil_of_le (Nat.le_refl _)] at e1
      exact ⟨e1, rfl⟩
end Go.Proofs.Ytoniebocphjmgaa
