/-
  The closure of PackReads, and the reference's Get.
-/
import Derived.Test.YtoniebocphjmgaaPackSpeaks
import Derived.Test.YtoniebocphjmgaaPackReadsSpec
import Derived.Test.YtoniebocphjmgaaRegionY
namespace Go.Proofs.Ytoniebocphjmgaa
open Go.RowKit Go.Proofs

theorem get_step (n : Nat) (h : n < 72057594037927936) (b : UInt8) : IntKind.u64.wrap (IntKind.u64.wrap (256 * (n : Int)) + IntKind.u64.wrap (b.toNat : Int)) = ((256 * n + b.toNat : Nat) : Int) := by
  have hb := b.toNat_lt
  rw [IntKind.wrap_u64, IntKind.wrap_u64, IntKind.wrap_u64]
  omega

set_option maxHeartbeats 1000000 in
set_option maxRecDepth 100000 in
theorem refGet_any (s : ByteArray) (w : World) (hs : s.size ≤ 8) : Calls Try.prog 40 #[.string s] w fun e w' => e = .returned (.int .u64 (getNum s.data.toList : Nat)) ∧ w = w' := by
  have hl : s.data.toList.length = s.size := by simp
  go_enter Try.func40, Try.ntmps40
  go_wp2_with fail
  go_loopw [3, 4] (fun nv iv wr => ∃ j : Nat, iv = .int .i64 j ∧ j ≤ s.size ∧ nv = .int .u64 (getNum (s.data.toList.take j) : Nat) ∧ w = wr) (fun _ iv _ => s.size - (intOf iv).toNat)
  case atStart => exact ⟨0, rfl, Nat.zero_le _, rfl, rfl⟩
  case round =>
    obtain ⟨j, rfl, hj, rfl, rfl⟩ := hrel
    by_cases hj1 : j < s.size
    · have hlast : s.data.toList.take (j + 1) = s.data.toList.take j ++ [s[j]] := by
        rw [List.take_succ_eq_append_getElem (by omega)]; rfl
      have hbd := getNum_lt (s.data.toList.take j)
      have hor := get_step (getNum (s.data.toList.take j)) (by
        refine Nat.lt_of_lt_of_le hbd ?_
        rw [List.length_take]
        exact Nat.pow_le_pow_right (n := 256) (by omega) (show min j _ ≤ 7 by omega)) s[j]
      have HO := Lib.hid hor; clear hor
      clear hbd
      go_wp2_with fail
      go_roundw
      case rel => exact ⟨j + 1, by go_num, by omega, by rw [HO.out, hlast, getNum_snoc], trivial⟩
      case measure => simp [intOf]; omega
    · have hjn : j = s.size := by omega
      subst hjn
      go_wp2_with fail
      go_ret
      refine ⟨?_, rfl⟩
      rw [List.take_of_length_le (by omega)]
      rfl

/-- the closure's variables: the reader b at the bytes s, the count N at i, the flag S still true -/
structure RdC (w0 : World) (b S N : Nat) (w : World) (s : ByteArray) (i : Nat) : Prop where
  rd : RdAt w b s
  cN : w.cell? ⟨N, 0, none⟩ = some (.int .i64 i)
  zN : w.frozen? ⟨N, 0, none⟩ = false
  cS : w.cell? ⟨S, 0, none⟩ = some (.bool true)
  zS : w.frozen? ⟨S, 0, none⟩ = false
  fr : Fr (fun k => k = b ∨ k = S ∨ k = N) w0 w
  bS : b ≠ S
  bN : b ≠ N
  SN : S ≠ N

theorem RdC.read {w0 : World} {b S N : Nat} {w w1 : World} {s s' : ByteArray} {i : Nat} (h : RdC w0 b S N w s i) (f : Fr (· = b) w w1) (r : RdAt w1 b s') : RdC w0 b S N w1 s' i :=
  ⟨r, f.cell h.cN (fun e => h.bN e.symm), (f.frozen h.cN (fun e => h.bN e.symm)).trans h.zN, f.cell h.cS (fun e => h.bS e.symm), (f.frozen h.cS (fun e => h.bS e.symm)).trans h.zS, h.fr.trans f (fun _ hk => .inl (.inl hk)), h.bS, h.bN, h.SN⟩

/-- what is left behind -/
def RdE (w0 : World) (b S N : Nat) (w : World) (n : Nat) : Prop := Fr (fun k => k = b ∨ k = S ∨ k = N) w0 w ∧ w.cell? ⟨N, 0, none⟩ = some (.int .i64 n) ∧ w.cell? ⟨S, 0, none⟩ = some (.bool true)

theorem RdC.ends {w0 : World} {b S N : Nat} {w w1 : World} {s : ByteArray} {i : Nat} (h : RdC w0 b S N w s i) (f : Fr (· = b) w w1) : RdE w0 b S N w1 i :=
  ⟨h.fr.trans f (fun _ hk => .inl (.inl hk)), f.cell h.cN (fun e => h.bN e.symm), f.cell h.cS (fun e => h.bS e.symm)⟩

theorem RdC.flag {w0 : World} {b S N : Nat} {w : World} {s : ByteArray} {i : Nat} (h : RdC w0 b S N w s i) : RdC w0 b S N (w.setCell ⟨S, 0, none⟩ (.bool true)) s i := by
  have f : Fr (fun k => k = S) w (w.setCell ⟨S, 0, none⟩ (.bool true)) := (Fr.refl (fun k => k = S) w).setCell (p := ⟨S, 0, none⟩) (.inl rfl) _
  exact ⟨RdAt.keep h.rd f h.bS, f.cell h.cN (fun e => h.SN e.symm), (f.frozen h.cN (fun e => h.SN e.symm)).trans h.zN, World.cell?_setCell_same _ _ _ h.cS, by rw [World.frozen?_setCell]; exact h.zS, h.fr.trans f (fun k hk => .inl (.inr (.inl hk))), h.bS, h.bN, h.SN⟩

theorem RdC.count {w0 : World} {b S N : Nat} {w : World} {s : ByteArray} {i : Nat} (h : RdC w0 b S N w s i) : RdC w0 b S N (w.setCell ⟨N, 0, none⟩ (.int .i64 (i + 1 : Nat))) s (i + 1) := by
  have f : Fr (fun k => k = N) w (w.setCell ⟨N, 0, none⟩ (.int .i64 (i + 1 : Nat))) := (Fr.refl (fun k => k = N) w).setCell (p := ⟨N, 0, none⟩) (.inl rfl) _
  exact ⟨RdAt.keep h.rd f h.bN, World.cell?_setCell_same _ _ _ h.cN, by rw [World.frozen?_setCell]; exact h.zN, f.cell h.cS h.SN, (f.frozen h.cS h.SN).trans h.zS, h.fr.trans f (fun k hk => .inl (.inr (.inr hk))), h.bS, h.bN, h.SN⟩

def rdOut (c : Int) (rest : ByteArray) : ROut := if c = 0 then .ok rest else .ref c

set_option maxHeartbeats 2000000 in
set_option maxRecDepth 100000 in
theorem reads1_any (b L S N V R : Nat) (al av : Option Addr) (cl cv : Nat) (l : List Int) (P : List ByteArray) (c : Int) (rest s0 : ByteArray) (w0 : World) (h0 : RdC w0 b S N w0 s0 0) (hR : reads l s0 = (P, c, rest)) (hs0 : s0.size ≤ 100)
    (cL : w0.cell? ⟨L, 0, none⟩ = some (.slice al l.length cl)) (cV : w0.cell? ⟨V, 0, none⟩ = some (.slice av P.length cv)) (cR : w0.cell? ⟨R, 0, none⟩ = some (.string rest))
    (dL : ¬ (L = b ∨ L = S ∨ L = N)) (dV : ¬ (V = b ∨ V = S ∨ V = N)) (dR : ¬ (R = b ∨ R = S ∨ R = N))
    (hal : ∀ w, Fr (fun k => k = b ∨ k = S ∨ k = N) w0 w → SlA w al l.length cl (l.map (Value.int .i64))) (hav : ∀ w, Fr (fun k => k = b ∨ k = S ∨ k = N) w0 w → SlA w av P.length cv (P.map Value.string)) (hlen : l.length ≤ 12)
    (hr : ∀ x ∈ l, -9223372036854775808 ≤ x ∧ x ≤ 9223372036854775807) :
    Calls Try.prog 39 #[.pointer (some ⟨b, 0, none⟩), .pointer (some ⟨L, 0, none⟩), .pointer (some ⟨S, 0, none⟩), .pointer (some ⟨N, 0, none⟩), .pointer (some ⟨V, 0, none⟩), .pointer (some ⟨R, 0, none⟩)] w0
      fun e w' => RdE w0 b S N w' P.length ∧ REnds b w' (rdOut c rest) e := by
  have hPl : P.length ≤ 12 := by
    have := reads_length l s0
    rw [hR] at this
    simp only at this
    omega
  have H0 := Lib.hid h0; clear h0
  have HR := Lib.hid hr; clear hr
  have HAL := Lib.hid hal; clear hal
  have HAV := Lib.hid hav; clear hav
  go_enter Try.func39, Try.ntmps39
  go_wp2_with fail
  go_loopw [7] (fun iv wr => ∃ (i : Nat) (si : ByteArray), iv = .int .i64 i ∧ i ≤ l.length ∧ i ≤ P.length ∧ si.size ≤ 100 ∧ RdC w0 b S N wr si i ∧ reads (l.drop i) si = (P.drop i, c, rest)) (fun iv _ => l.length - (intOf iv).toNat)
  case atStart => exact ⟨0, s0, rfl, Nat.zero_le _, Nat.zero_le _, hs0, H0.out, hR⟩
  case round =>
    obtain ⟨i, si, rfl, hi, hiP, hsi, hc, hrd⟩ := hrel
    have q1 := hc.fr.cell cL dL
    have q2 := hc.fr.cell cV dV
    have q3 := hc.fr.cell cR dR
    have q4 := hc.cN
    have q5 := hc.cS
    have q6 := hc.zN
    have q7 := hc.zS
    have HC := Lib.hid hc; clear hc
    by_cases hil : i < l.length
    · obtain ⟨g, o, rfl, hcell⟩ := (HAL.out _ HC.out.fr).cell i (.int .i64 l[i]) (by simp [hil])
      have hrg := HR.out _ (List.getElem_mem hil)
      have hrg1 := hrg.1
      have hrg2 := hrg.2
      rw [drop_act hil] at hrd
      generalize l[i] = a at *
      clear hrg
      by_cases hb : actBad a si = 0
      · rw [reads_go hb] at hrd
        have hrd1 : actPiece a si :: (reads (l.drop (i + 1)) (actRest a si)).1 = P.drop i := congrArg Prod.fst hrd
        have hrd2 := congrArg Prod.snd hrd
        simp only at hrd2
        have hiP' : i < P.length := by
          rcases Nat.lt_or_ge i P.length with h | h
          · exact h
          · rw [List.drop_eq_nil_of_le h] at hrd1; cases hrd1
        rw [List.drop_eq_getElem_cons hiP'] at hrd1
        injection hrd1 with hp hq
        have HNX : Hid (reads (l.drop (i + 1)) (actRest a si) = (P.drop (i + 1), c, rest)) := Lib.hid (Prod.ext hq hrd2)
        obtain ⟨g2, o2, rfl, hcell2⟩ := (HAV.out _ HC.out.fr).cell i (.string P[i]) (by simp [hiP'])
        have HP0 := Lib.hid hp
        clear hrd hrd2 hq hp
        by_cases h9 : a < 9
        · have h1 : ¬ a < 1 := by
            intro h
            unfold actBad at hb
            rw [if_pos h] at hb
            cases hb
          obtain ⟨k, rfl⟩ : ∃ k : Nat, a = (k : Int) := ⟨a.toNat, by omega⟩
          have hah : actAhead (k : Int) = 0 := if_neg (by omega)
          have hsz : actSize (k : Int) si = k := by unfold actSize; rw [if_neg (by omega), if_neg (by omega)]
          rw [actBad_some h1 (by omega), hah, hsz] at hb
          have hlt : k ≤ si.size := by
            apply Classical.byContradiction
            intro h
            rw [if_pos (by omega)] at hb
            cases hb
          have hpc : actPiece (k : Int) si = si.extract 0 k := by unfold actPiece; rw [hah, hsz, Nat.zero_add]; rfl
          have hrs : actRest (k : Int) si = si.extract k si.size := by unfold actRest; rw [hah, hsz, Nat.zero_add]; rfl
          rw [hrs] at HNX
          have HP : Hid (si.extract 0 k = P[i]) := Lib.hid (by rw [← hpc]; exact HP0.out)
          clear hb hah hsz hpc hrs
          go_wp2_with fail
          refine (readerNum_ok b k si wr HC.out.rd (by omega) (by omega) hlt).mono ?_
          rintro e w1 ⟨rfl, hr1, hf1⟩
          have hc1 := HC.out.read hf1 hr1
          have p1 := hc1.fr.cell cL dL
          have p2 := hc1.fr.cell cV dV
          have p4 := hc1.cN
          have p5 := hc1.cS
          have p6 := hc1.zN
          have p7 := hc1.zS
          obtain ⟨g3, o3, he3, hcell3⟩ := (HAV.out _ hc1.fr).cell i (.string P[i]) (by simp [hiP'])
          cases he3
          rw [← HP.out] at hcell3
          have f4 := hc1.flag.cN
          have f6 := hc1.flag.zN
          have HC1 := Lib.hid hc1; clear hc1 hr1 hf1
          clear hcell hcell2 q1 q2 q3 q4 q5 q6 q7
          go_wp2_with fail
          refine (refGet_any (si.extract 0 k) w1 (by simp; omega)).mono ?_
          rintro e w2 ⟨rfl, rfl⟩
          go_wp2_with fail
          have HC2 := Lib.hid HC1.out.flag.count
          go_roundw
          case rel => exact ⟨i + 1, si.extract k si.size, by go_num, by omega, by omega, by simp; omega, HC2.out, HNX.out⟩
          case measure => simp [intOf]; omega
        · by_cases h9' : a = 9
          · subst h9'
            obtain ⟨n, hn⟩ : ∃ n, getNum (si.extract 0 1).data.toList = n := ⟨_, rfl⟩
            have h1 : 1 ≤ si.size := by
              apply Classical.byContradiction
              intro h
              unfold actBad at hb
              rw [if_neg (by decide), if_pos ⟨rfl, by omega⟩] at hb
              cases hb
            have hsz : actSize 9 si = n := by unfold actSize; rw [if_pos rfl, hn]
            rw [actBad_some (by decide) (by omega), hsz, show actAhead 9 = 1 from rfl] at hb
            have hlt : n + 1 ≤ si.size := by
              apply Classical.byContradiction
              intro h
              rw [if_pos (by omega)] at hb
              cases hb
            have hpc : actPiece 9 si = (si.extract 1 si.size).extract 0 n := by
              unfold actPiece; rw [hsz, show actAhead 9 = 1 from rfl, ByteArray.extract_extract]
              congr 1
              simp; omega
            have hrs : actRest 9 si = (si.extract 1 si.size).extract n (si.extract 1 si.size).size := by
              unfold actRest; rw [hsz, show actAhead 9 = 1 from rfl, ByteArray.extract_extract]
              congr 1
              simp; omega
            rw [hrs] at HNX
            have HP : Hid ((si.extract 1 si.size).extract 0 n = P[i]) := Lib.hid (by rw [← hpc]; exact HP0.out)
            clear hb hsz hpc hrs
            go_wp2_with fail
            refine (readerText_ok b si n wr HC.out.rd h1 hn hlt).mono ?_
            rintro e w1 ⟨rfl, hr1, hf1⟩
            clear hn
            have hc1 := HC.out.read hf1 hr1
            have p1 := hc1.fr.cell cL dL
            have p2 := hc1.fr.cell cV dV
            have p4 := hc1.cN
            have p5 := hc1.cS
            have p6 := hc1.zN
            have p7 := hc1.zS
            obtain ⟨g3, o3, he3, hcell3⟩ := (HAV.out _ hc1.fr).cell i (.string P[i]) (by simp [hiP'])
            cases he3
            rw [← HP.out] at hcell3
            have f4 := hc1.flag.cN
            have f6 := hc1.flag.zN
            have HC1 := Lib.hid hc1; clear hc1 hr1 hf1
            clear hcell hcell2 q1 q2 q3 q4 q5 q6 q7
            go_wp2_with fail
            have HC2 := Lib.hid HC1.out.flag.count
            go_roundw
            case rel => exact ⟨i + 1, (si.extract 1 si.size).extract n (si.extract 1 si.size).size, by go_num, by omega, by omega, by simp; omega, HC2.out, HNX.out⟩
            case measure => simp [intOf]; omega
          · obtain ⟨k, hka⟩ : ∃ k : Nat, a - 10 = (k : Int) := ⟨(a - 10).toNat, by omega⟩
            have hah : actAhead a = 0 := if_neg h9'
            have hsz : actSize a si = k := by unfold actSize; rw [if_neg h9', if_pos (by omega), hka]
            rw [actBad_some (by omega) (by omega), hah, hsz] at hb
            have hlt : k ≤ si.size := by
              apply Classical.byContradiction
              intro h
              rw [if_pos (by omega)] at hb
              cases hb
            have hpc : actPiece a si = si.extract 0 k := by unfold actPiece; rw [hah, hsz, Nat.zero_add]; rfl
            have hrs : actRest a si = si.extract k si.size := by unfold actRest; rw [hah, hsz, Nat.zero_add]; rfl
            rw [hrs] at HNX
            have HP : Hid (si.extract 0 k = P[i]) := Lib.hid (by rw [← hpc]; exact HP0.out)
            clear hb hah hsz hpc hrs
            go_wp2_with fail
            refine (readerRaw_ok b k si wr HC.out.rd hlt).mono ?_
            rintro e w1 ⟨rfl, rfl⟩
            have hr1 := HC.out.rd.after (s' := si.extract k si.size) (by simp)
            have hf1 : Fr (· = b) wr (wr.setCell ⟨b, 0, none⟩ (.string (si.extract k si.size))) := (Fr.refl (fun k => k = b) wr).setCell (p := ⟨b, 0, none⟩) (.inl rfl) _
            have hc1 := HC.out.read hf1 hr1
            have p1 := hc1.fr.cell cL dL
            have p2 := hc1.fr.cell cV dV
            have p4 := hc1.cN
            have p5 := hc1.cS
            have p6 := hc1.zN
            have p7 := hc1.zS
            obtain ⟨g3, o3, he3, hcell3⟩ := (HAV.out _ hc1.fr).cell i (.string P[i]) (by simp [hiP'])
            cases he3
            rw [← HP.out] at hcell3
            have f4 := hc1.flag.cN
            have f6 := hc1.flag.zN
            have HC1 := Lib.hid hc1; clear hc1 hr1 hf1
            clear hcell hcell2 q1 q2 q3 q4 q5 q6 q7
            go_wp2_with fail
            have HC2 := Lib.hid HC1.out.flag.count
            go_roundw
            case rel => exact ⟨i + 1, si.extract k si.size, by go_num, by omega, by omega, by simp; omega, HC2.out, HNX.out⟩
            case measure => simp [intOf]; omega
      · rw [reads_stop hb] at hrd
        have hPi : P.drop i = [] := (congrArg Prod.fst hrd).symm
        have hcb : actBad a si = c := congrArg (fun x => x.2.1) hrd
        have hPl2 : P.length = i := by
          have := congrArg List.length hPi; simp at this; omega
        have hc0 : c ≠ 0 := by rw [← hcb]; exact hb
        have HEND : Hid (∀ w', Fr (· = b) wr w' → RdE w0 b S N w' P.length ∧ REnds b w' (rdOut c rest) (.panicked [{ v := refused c, recovered := false }])) :=
          Lib.hid (fun w' h => ⟨by rw [hPl2]; exact HC.out.ends h, by unfold rdOut; rw [if_neg hc0]; exact .ref c hc0⟩)
        have HC0 := Lib.hid hc0
        clear hrd hPi hb hc0 hPl2
        by_cases h9 : a < 9
        · by_cases h1 : a < 1
          · have hc11 : c = 11 := by rw [← hcb]; unfold actBad; rw [if_pos h1]
            subst hc11
            clear hcb
            go_wp2_with fail
            refine (readerNum_bad ⟨b, 0, none⟩ a wr (.inl h1)).mono ?_
            rintro e w' ⟨rfl, rfl⟩
            go_wp2
            exact ⟨rfl, HEND.out _ (Fr.refl _ _)⟩
          · have hne : ¬ (a = 9 ∧ si.size < 1) := by omega
            have hah : actAhead a = 0 := if_neg (by omega)
            have hsz : actSize a si = a := by unfold actSize; rw [if_neg (by omega), if_neg (by omega)]
            rw [actBad_some h1 hne, hah, hsz] at hcb
            have hlt : (si.size : Int) < a := by
              apply Classical.byContradiction
              intro h
              rw [if_neg (by simpa using h)] at hcb
              exact absurd hcb.symm HC0.out
            rw [if_pos (by simpa using hlt)] at hcb
            subst hcb
            go_wp2_with fail
            refine (readerNum_short b a si wr HC.out.rd (by omega) (by omega) hlt).mono ?_
            rintro e w' ⟨rfl, rfl⟩
            go_wp2
            exact ⟨rfl, HEND.out _ (Fr.refl _ _)⟩
        · by_cases h9' : a = 9
          · subst h9'
            by_cases hz : si.size = 0
            · have hc2 : c = 2 := by rw [← hcb]; unfold actBad; rw [if_neg (by decide), if_pos ⟨rfl, by omega⟩]
              subst hc2
              clear hcb
              go_wp2_with fail
              refine (readerText_none b si wr HC.out.rd hz).mono ?_
              rintro e w' ⟨rfl, rfl⟩
              go_wp2
              exact ⟨rfl, HEND.out _ (Fr.refl _ _)⟩
            · obtain ⟨n, hn⟩ : ∃ n, getNum (si.extract 0 1).data.toList = n := ⟨_, rfl⟩
              have hsz : actSize 9 si = n := by unfold actSize; rw [if_pos rfl, hn]
              rw [actBad_some (by decide) (by omega), hsz, show actAhead 9 = 1 from rfl] at hcb
              have hlt : (si.size : Int) < ((1 : Nat) : Int) + n := by
                apply Classical.byContradiction
                intro h
                rw [if_neg h] at hcb
                exact absurd hcb.symm HC0.out
              have hcb' : (2 : Int) = c := by rw [← hcb, if_pos hlt]
              subst hcb'
              clear hcb
              go_wp2_with fail
              refine (readerText_short b si n wr HC.out.rd (by omega) hn (by omega)).mono ?_
              rintro e w' ⟨rfl, hf⟩
              go_wp2
              exact ⟨rfl, HEND.out _ hf⟩
          · obtain ⟨k, hka⟩ : ∃ k : Nat, a - 10 = (k : Int) := ⟨(a - 10).toNat, by omega⟩
            have hah : actAhead a = 0 := if_neg h9'
            have hsz : actSize a si = k := by unfold actSize; rw [if_neg h9', if_pos (by omega), hka]
            rw [actBad_some (by omega) (by omega), hah, hsz] at hcb
            have hlt : (si.size : Int) < k := by
              apply Classical.byContradiction
              intro h
              rw [if_neg (by simpa using h)] at hcb
              exact absurd hcb.symm HC0.out
            rw [if_pos (by simpa using hlt)] at hcb
            subst hcb
            go_wp2_with fail
            refine (readerRaw_short b k si wr HC.out.rd (by omega) hlt (by omega)).mono ?_
            rintro e w' ⟨rfl, rfl⟩
            go_wp2
            exact ⟨rfl, HEND.out _ (Fr.refl _ _)⟩
    · have hin : i = l.length := by omega
      subst hin
      rw [List.drop_eq_nil_of_le (Nat.le_refl _)] at hrd
      have hPi : P.drop l.length = [] := (congrArg Prod.fst hrd).symm
      have hc0 : 0 = c := congrArg (fun x => x.2.1) hrd
      have hsr : si = rest := congrArg (fun x => x.2.2) hrd
      have hPl2 : P.length = l.length := by
        have := congrArg List.length hPi; simp at this; omega
      subst hc0 hsr
      clear hrd hPi
      haveI : Nonempty (WC (fun w => w.cell? ⟨S, 0, none⟩ = some (.bool true) ∧ w.cell? ⟨R, 0, none⟩ = some (.string si))) := ⟨⟨wr, q5, q3⟩⟩
      have y1 : ∀ z : WC (fun w => w.cell? ⟨S, 0, none⟩ = some (.bool true) ∧ w.cell? ⟨R, 0, none⟩ = some (.string si)), z.val.cell? ⟨S, 0, none⟩ = some (.bool true) := fun z => z.ok.1
      have y2 : ∀ z : WC (fun w => w.cell? ⟨S, 0, none⟩ = some (.bool true) ∧ w.cell? ⟨R, 0, none⟩ = some (.string si)), z.val.cell? ⟨R, 0, none⟩ = some (.string si) := fun z => z.ok.2
      have HD := Lib.hid HC.out.flag
      go_wp2_with fail
      refine wp_region_last 8 [3] [] (fun w' => ∃ z : WC (fun w => w.cell? ⟨S, 0, none⟩ = some (.bool true) ∧ w.cell? ⟨R, 0, none⟩ = some (.string si)), w' = z.val) (by kernel_rfl) (by kernel_rfl) (fun c a w d v h => by cases d <;> exact h) (fun c a w d v h => by cases d <;> exact h) ⟨⟨wr.drew, q5, q3⟩, rfl⟩ ?_
      simp only [List.take]
      repeat (refine wpU_q (by rfl) (by rfl) ?_; go_big_quiet_step (fail); refine wpQuiet_nil ?_)
      refine wpU_e (by rfl) ?_
      go_wp2_with fail
      refine (readerLeft_any b si wr.drew ⟨HC.out.rd.1, HC.out.rd.2.1, HC.out.rd.2.2⟩).mono ?_
      rintro e w' ⟨rfl, rfl⟩
      go_wp2_with fail
      refine ⟨⟨⟨wr.drew, q5, q3⟩, rfl⟩, ?_⟩
      repeat (refine wpU_q (by rfl) (by rfl) ?_; go_big_quiet_step (fail); refine wpQuiet_nil ?_)
      refine wpU_nil ?_
      simp only [lastQ, List.drop]
      clear y1 y2
      go_wp2_with fail
      go_end0
      exact ⟨⟨HD.out.fr.drew, by rw [hPl2]; exact HD.out.cN, HD.out.cS⟩, REnds.ok _ ⟨HD.out.rd.1, HD.out.rd.2.1, HD.out.rd.2.2⟩⟩
end Go.Proofs.Ytoniebocphjmgaa
