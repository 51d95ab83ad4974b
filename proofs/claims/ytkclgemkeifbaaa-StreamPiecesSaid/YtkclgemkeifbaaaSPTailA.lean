/-
  StreamPieces: what stands behind its third loop.
-/
import Derived.Test.YtkclgemkeifbaaaStrApp
import Derived.Test.YtkclgemkeifbaaaStrLen
import Derived.Test.YtkclgemkeifbaaaRegionZ
import Derived.Test.YtkclgemkeifbaaaCodeAt
import Derived.Deep.CutBlock
import Derived.Deep.CutRange
namespace Go.Proofs.Ytkclgemkeifbaaa
open Go.RowKit Go.Proofs

theorem encode_told {p : MsgP} {w : World} (x : SMsg) (h : MsgAt w x.told p) : Calls Try.prog 17 #[x.told.val p] w fun e w' => e = .returned (.tuple #[.string ⟨x.told.enc.toArray⟩, .int .i64 0]) ∧ Gr w w' := by
  have := encode_any x.told p w (told_fits x) h
  have hfr : x.told.out = ⟨x.told.enc.toArray⟩ := by unfold Msg.out; rw [if_pos (told_code x)]
  rwa [told_code, hfr] at this

theorem MsgOwn.far {S : Nat → Prop} {B : Nat} {w w' : World} {m : Msg} {p : MsgP} (h : MsgOwn B w m p) (f : Fr S w w') (hS : ∀ k, S k → w.heap.size ≤ k) : MsgOwn B w' m p :=
  ⟨own_fr h.nodes f (fun q hq hs => by have := (h.nodes.lt q hq).2; have := hS q hs; omega), own_fr h.ids f (fun q hq hs => by have := (h.ids.lt q hq).2; have := hS q hs; omega), own_fr h.recs f (fun q hq hs => by have := (h.recs.lt q hq).2; have := hS q hs; omega)⟩
theorem MsgsOwn.far {S : Nat → Prop} {B : Nat} {w w' : World} {L : List (Msg × MsgP)} {v : Value} (h : MsgsOwn B w L v) (f : Fr S w w') (hS : ∀ k, S k → w.heap.size ≤ k) : MsgsOwn B w' L v :=
  ⟨own_fr h.row f (fun q hq hs => by have := (h.row.lt q hq).2; have := hS q hs; omega), fun x hx => (h.own x hx).far f hS⟩
/-- the pieces: what has been fed, what is left -/
structure PcSt (ws : World) (q : Nat) (A t r : List UInt8) (G : List (Msg × MsgP)) (v : Value) (w : World) : Prop where
  cut : t ++ r = A
  got : MsgsOwn ws.heap.size w G v
  ms : G.map Prod.fst = (feed t).1
  spl : SplAt w q (feed t).2.1 (feed t).2.2
  fr : Fr (· = q) ws w

set_option maxHeartbeats 16000000 in
set_option maxRecDepth 100000 in
-- no path
theorem sp_tail4 {a : Option Addr} {cap : Nat} {l : List SMsg} {ac : Option Addr} {capc : Nat} {cuts : List Int} {s : List UInt8} {W : World} {i1 : TypeInfo}
    (_hi1 : Try.prog.info? 30 = some i1)
    (_hi2 : i1.zero = some msgZeroV)
    (_hi3 : i1.size = 7)
    (_hi4 : i1.bytes = 104)
    (_hcap : l.length ≤ cap)
    (_hmax : cap ≤ 9223372036854775807)
    (_hcapc : cuts.length ≤ capc)
    (_hmaxc : capc ≤ 9223372036854775807) {u10 : Value} {u11 : Value} {u12 : Value} {u13 : Value} {u14 : Value} {u39 : Value} {u40 : Value} {u41 : Value} {u42 : Value} {u43 : Value} {u44 : Value} {u45 : Value} {u46 : Value} {u47 : Value} {u48 : Value} {u49 : Value} {u50 : Value} {u51 : Value} {u52 : Value} {u53 : Value} {u54 : Value} {u55 : Value} {u56 : Value} {u57 : Value} {u58 : Value} {u59 : Value} {u60 : Value} {u61 : Value} {u62 : Value} {u63 : Value} {u64 : Value} {u65 : Value} {u66 : Value} {u67 : Value} {u68 : Value} {u69 : Value} {u70 : Value} {u71 : Value} {u72 : Value} {u73 : Value} {u74 : Value} {u75 : Value} {u76 : Value} {u77 : Value} {i : Nat} {L : List (Msg × MsgP)} {u31 : Value} {u32 : Value} {u33 : Value} {u34 : Value} {u35 : Value} {u36 : Value} {u37 : Value} {m : Nat} {J : List UInt8}
    (hJl : J.length ≤ 40) {fb : List UInt8} {wn : List Msg}
    (_hwl : wn.length ≤ 8) {w2 : World} {w3 : World} {L3 : List (Msg × MsgP)} {a3 : Option Addr} {p3 : Nat} {qx : Nat}
    (_szr : W.heap.size ≤ qx)
    (_HS2 : Hid (w2.heap.size = qx + 2))
    (_HS3 : Hid (qx + 2 ≤ w3.heap.size)) {u22 : Value} {u91 : Value} {u92 : Value} {u93 : Value} {u94 : Value} {u95 : Value} {u96 : Value} {u97 : Value} {u98 : Value} {u99 : Value} {u100 : Value} {u101 : Value} {u102 : Value} {u103 : Value} {u104 : Value} {u105 : Value} {u106 : Value} {u107 : Value} {u108 : Value} {u109 : Value} {u110 : Value} {u111 : Value} {u112 : Value} {u113 : Value} {u114 : Value} {u115 : Value} {t : List UInt8} {G : List (Msg × MsgP)} {jq : Nat} {ag : Option Addr} {pg : Nat} {aw : Option Addr} {pw : Nat}
    (hgl : (↑G.length : Int) = (↑L3.length : Int))
    (_hlw : (↑L.length : Int) ≤ (↑L3.length : Int))
    (_hb3 : (↑L3.length : Int) ≤ 1000) {u : List UInt8} {c : Int}
    (HUC : Hid ((u, c) = (feed J).snd))
    (_dlt : decide (L3.length < L.length) = false) {wr : World} {u6 : Value} {u142 : Value} {u143 : Value} {u144 : Value} {u145 : Value} {u146 : Value} {u147 : Value} {u148 : Value} {u149 : Value} {u150 : Value} {u151 : Value} {u152 : Value} {u153 : Value} {u154 : Value} {u155 : Value} {u156 : Value} {u157 : Value} {u158 : Value} {u159 : Value} {u160 : Value} {u161 : Value} {u162 : Value} {u163 : Value} {u164 : Value} {u165 : Value} {u166 : Value} {u167 : Value} {u168 : Value} {u169 : Value} {u170 : Value} {u171 : Value} {j : Nat}
    (hj : j ≤ L3.length)
    (hlt : ¬j < L3.length)
    (hgl2 : (↑j : Int) = (↑L3.length : Int))
    (HGW : Hid ((feed J).fst = [] → (↑G.length : Int) = (↑L.length : Int)))
    (SXR : Hid (SplAt wr qx u c))
    (FE : Hid (Gr W wr))
    (zJ : (ByteArray.mk (J.toArray)).size = J.length) :
    Code.wp Try.prog (codeAt [1, 1, 1, 1, 1, 1, 1, 1, 1, 1, 1, 1, 1, 1] ((Try.f10).body.getD .skip)) (bodyPost Try.prog Try.f10 fun (e : Ending) (w' : World) => e = Ending.returned (Value.bool true) ∧ Below W.heap.size W w') ⟨List.toArray (Value.slice a l.length cap :: Value.slice ac cuts.length capc :: Value.string (ByteArray.mk (J.toArray)) :: undef :: undef :: undef :: u6 :: Value.string (ByteArray.mk (fb.toArray)) :: Value.slice aw L.length pw :: Value.int IntKind.i64 (↑i : Int) :: u10 :: u11 :: u12 :: u13 :: u14 :: Value.string (ByteArray.mk (t.toArray)) :: Value.pointer (some { block := qx, off := 0 }) :: Value.pointer (some { block := qx + 1, off := 0 }) :: Value.slice a3 L3.length p3 :: Value.slice ag G.length pg :: Value.string (ByteArray.mk (#[])) :: Value.int IntKind.i64 (↑jq : Int) :: u22 :: Value.int IntKind.i64 (↑j : Int) :: undef :: undef :: undef :: undef :: undef :: Value.bool true :: Value.bool false :: u31 :: u32 :: u33 :: u34 :: u35 :: u36 :: u37 :: Value.bool false :: u39 :: u40 :: u41 :: u42 :: u43 :: u44 :: u45 :: u46 :: u47 :: u48 :: u49 :: u50 :: u51 :: u52 :: u53 :: u54 :: u55 :: u56 :: u57 :: u58 :: u59 :: u60 :: u61 :: u62 :: u63 :: u64 :: u65 :: u66 :: u67 :: u68 :: u69 :: u70 :: u71 :: u72 :: u73 :: u74 :: u75 :: u76 :: u77 :: Value.string (ByteArray.mk (s.toArray)) :: Value.string (ByteArray.mk (s.toArray)) :: Value.int IntKind.i64 (↑s.length : Int) :: Value.int IntKind.i64 (↑m : Int) :: Value.string (ByteArray.mk (J.toArray)) :: Value.string (ByteArray.mk (fb.toArray)) :: Value.string (ByteArray.mk (J.toArray)) :: Value.string (ByteArray.mk (t.toArray)) :: Value.string (ByteArray.mk (t.toArray)) :: Value.slice a3 L3.length p3 :: Value.string (ByteArray.mk (t.toArray)) :: Value.string (ByteArray.mk (#[])) :: Value.bool false :: u91 :: u92 :: u93 :: u94 :: u95 :: u96 :: u97 :: u98 :: u99 :: u100 :: u101 :: u102 :: u103 :: u104 :: u105 :: u106 :: u107 :: u108 :: u109 :: u110 :: u111 :: u112 :: u113 :: u114 :: u115 :: Value.slice ag G.length pg :: Value.int IntKind.i64 (↑L3.length : Int) :: Value.slice a3 L3.length p3 :: Value.int IntKind.i64 (↑L3.length : Int) :: Value.bool false :: Value.bool false :: Value.slice a3 L3.length p3 :: Value.int IntKind.i64 (↑L3.length : Int) :: Value.slice aw L.length pw :: Value.int IntKind.i64 (↑L.length : Int) :: Value.bool false :: Value.bool false :: Value.bool false :: Value.int IntKind.i64 c :: Value.int IntKind.i64 c :: Value.bool false :: Value.bool false :: Value.bool false :: Value.int IntKind.i64 (↑u.length : Int) :: Value.int IntKind.i64 (↑u.length : Int) :: Value.bool false :: Value.bool false :: Value.int IntKind.i64 (↑j : Int) :: Value.slice ag G.length pg :: Value.int IntKind.i64 (↑L3.length : Int) :: Value.bool false :: u142 :: u143 :: u144 :: u145 :: u146 :: u147 :: u148 :: u149 :: u150 :: u151 :: u152 :: u153 :: u154 :: u155 :: u156 :: u157 :: u158 :: u159 :: u160 :: u161 :: u162 :: u163 :: u164 :: u165 :: u166 :: u167 :: u168 :: u169 :: u170 :: u171 :: undef :: undef :: undef :: undef :: undef :: undef :: undef :: undef :: undef :: undef :: undef :: undef :: undef :: undef :: undef :: undef :: undef :: undef :: undef :: undef :: undef :: undef :: undef :: undef :: undef :: undef :: undef :: undef :: undef :: undef :: undef :: undef :: undef :: undef :: undef :: undef :: undef :: undef :: undef :: undef :: undef :: undef :: undef :: undef :: undef :: undef :: []), []⟩ wr := by
  conv => arg 2; whnf
  by_cases hJ2 : J.length < 2
  · have hn : nextS J = (none, J, 0) := by unfold nextS; rw [if_pos hJ2]
    have hf := feed_none hn
    have hu := HUC.out
    rw [hf] at hu
    simp only [Prod.mk.injEq] at hu
    obtain ⟨rfl, rfl⟩ := hu
    have hGL := HGW.out (by rw [hf])
    have t1 := Lib.hid (splBad_any SXR.out)
    have t3 := Lib.hid (splLeft_any SXR.out)
    clear hn hf
    go_wp2_with fail
    refine t1.out.mono ?_
    rintro e w6 ⟨rfl, rfl⟩
    go_wp2_with fail
    refine t3.out.mono ?_
    rintro e w6 ⟨rfl, rfl⟩
    go_wp2_with fail
    go_ret
    exact ⟨rfl, Fr.below (Below.refl _ _) FE.out (Nat.le_refl _) (fun _ h => h.elim)⟩
  · obtain ⟨xa, xb, r, rfl⟩ : ∃ xa xb r, J = xa :: xb :: r := by
      rcases J with _ | ⟨xa, _ | ⟨xb, r⟩⟩
      · simp at hJ2
      · simp at hJ2
      · exact ⟨xa, xb, r, rfl⟩
    have hg : getNum ((xa :: xb :: r).take 2) = 256 * xa.toNat + xb.toNat := by simp [getNum]
    have hsJ : (ByteArray.mk (xa :: xb :: r).toArray).size = r.length + 2 := by rw [mk_size]; rfl
    have hrl : r.length ≤ 40 := by simp at hJl; omega
    have i0 : ∀ w, (Instr.index 9 (.string ⟨(xa :: xb :: r).toArray⟩) (.int .i64 0)).run Try.prog w = .ok (.int .u8 xa.toNat) w := fun w => index_at _ 0 (by omega) w
    have i1' : ∀ w, (Instr.index 9 (.string ⟨(xa :: xb :: r).toArray⟩) (.int .i64 1)).run Try.prog w = .ok (.int .u8 xb.toNat) w := fun w => index_at _ 1 (by omega) w
    have ha0 : (0 : Int) ≤ (xa.toNat : Int) := by omega
    have ha1 : (xa.toNat : Int) < 256 := by have := xa.toNat_lt; omega
    have hb0 : (0 : Int) ≤ (xb.toNat : Int) := by omega
    have hb1 : (xb.toNat : Int) < 256 := by have := xb.toNat_lt; omega
    have hor : 256 * (xa.toNat : Int) + (xb.toNat : Int) = ((256 * xa.toNat + xb.toNat : Nat) : Int) := by omega
    have hns : nextS (xa :: xb :: r) = if 4096 < 256 * xa.toNat + xb.toNat then (none, [], 3) else if r.length < 256 * xa.toNat + xb.toNat then (none, xa :: xb :: r, 0) else match Msg.dec (r.take (256 * xa.toNat + xb.toNat)) with | .ref c => (none, [], c) | .ok m _ => (some m, r.drop (256 * xa.toNat + xb.toNat), 0) := by
      unfold nextS
      rw [hg, if_neg (by simp)]
      have hlen : ((xa :: xb :: r).length < 2 + (256 * xa.toNat + xb.toNat)) = (r.length < 256 * xa.toNat + xb.toNat) := by simp; omega
      have hd2 : (xa :: xb :: r).drop (2 + (256 * xa.toNat + xb.toNat)) = r.drop (256 * xa.toNat + xb.toNat) := by rw [← List.drop_drop]; rfl
      simp only [hlen, hd2]
      rfl
    have HNS := Lib.hid hns
    clear hns hg zJ
    generalize 256 * xa.toNat + xb.toNat = n at *
    by_cases hs : 4096 < n
    · have hn := HNS.out
      rw [if_pos hs] at hn
      have hf := feed_none hn
      have hu := HUC.out
      rw [hf] at hu
      simp only [Prod.mk.injEq] at hu
      obtain ⟨rfl, rfl⟩ := hu
      have hGL := HGW.out (by rw [hf])
      have hn4 : (4096 : Int) < (n : Int) := by omega
      have SXD := Lib.hid (SXR.out.keep ((Fr.refl (fun _ => False) wr).drew) (fun h => h))
      clear hn hf
      have t1 := Lib.hid (splBad_any SXD.out)
      have t3 := Lib.hid (splLeft_any SXD.out)
      go_wp2_with fail
      go_region
      go_wp2_with fail
      refine t1.out.mono ?_
      rintro e w6 ⟨rfl, rfl⟩
      go_wp2_with fail
      refine t3.out.mono ?_
      rintro e w6 ⟨rfl, rfl⟩
      go_wp2_with fail
      go_ret
      exact ⟨rfl, Fr.below (Below.refl _ _) FE.out.drew (Nat.le_refl _) (fun _ h => h.elim)⟩
    · by_cases hw : r.length < n
      · have hn := HNS.out
        rw [if_neg hs, if_pos hw] at hn
        have hf := feed_none hn
        have hu := HUC.out
        rw [hf] at hu
        simp only [Prod.mk.injEq] at hu
        obtain ⟨rfl, rfl⟩ := hu
        have hGL := HGW.out (by rw [hf])
        have hn4 : (n : Int) ≤ 4096 := by omega
        have hw4 : (r.length : Int) + 2 < 2 + (n : Int) := by omega
        have hll : ((r.length : Int) + 1 + 1 == (r.length : Int) + 2) = true := by rw [beq_iff_eq]; omega
        have SXD := Lib.hid (SXR.out.keep ((Fr.refl (fun _ => False) wr).drew) (fun h => h))
        clear hn hf
        have t1 := Lib.hid (splBad_any SXD.out)
        have t3 := Lib.hid (splLeft_any SXD.out)
        go_wp2_with fail
        go_region
        go_wp2_with fail
        refine t1.out.mono ?_
        rintro e w6 ⟨rfl, rfl⟩
        go_wp2_with fail
        refine t3.out.mono ?_
        rintro e w6 ⟨rfl, rfl⟩
        go_wp2_with fail
        go_ret
        exact ⟨rfl, Fr.below (Below.refl _ _) FE.out.drew (Nat.le_refl _) (fun _ h => h.elim)⟩
      · have hn4 : (n : Int) ≤ 4096 := by omega
        have hw4 : 2 + (n : Int) ≤ (r.length : Int) + 2 := by omega
        have hx : (⟨(xa :: xb :: r).toArray⟩ : ByteArray).extract 2 (2 + n) = ⟨(r.take n).toArray⟩ := by rw [mk_extract, Nat.add_comm 2 n]; rfl
        cases hd : Msg.dec (r.take n) with
        | ref e =>
          have hn := HNS.out
          rw [if_neg hs, if_neg hw, hd] at hn
          simp only at hn
          have hf := feed_none hn
          have hu := HUC.out
          rw [hf] at hu
          simp only [Prod.mk.injEq] at hu
          obtain ⟨rfl, rfl⟩ := hu
          have hGL := HGW.out (by rw [hf])
          have hc : (c == 0) = false := by rcases Msg.dec_ref hd with h | h | h <;> rw [h] <;> rfl
          have HD := Lib.hid hd
          clear hn hf hd
          go_wp2_with fail
          go_region
          go_wp2_with fail
          refine (decode_any (r.take n) (by simp; omega) _).mono ?_
          rintro e w6 ⟨f6, h6⟩
          rw [HD.out] at h6
          simp only at h6
          subst h6
          have F6 := Lib.hid (Gr.trans FE.out.drew f6)
          have SXD := Lib.hid (SXR.out.keep (Gr.trans ((Fr.refl (fun _ => False) wr).drew) f6) (fun h => h))
          clear f6
          go_wp2_with fail
          have SXE := Lib.hid (SXD.out.keep ((Fr.refl (fun _ => False) w6).alloc (.cells (Msg.zero.arr MsgP.zero) 30)) (fun h => h))
          have t1 := Lib.hid (splBad_any SXE.out)
          have t3 := Lib.hid (splLeft_any SXE.out)
          refine t1.out.mono ?_
          rintro e w7 ⟨rfl, rfl⟩
          go_wp2_with fail
          refine t3.out.mono ?_
          rintro e w7 ⟨rfl, rfl⟩
          go_wp2_with fail
          go_ret
          exact ⟨rfl, Fr.below (Below.refl _ _) (F6.out.alloc _) (Nat.le_refl _) (fun _ h => h.elim)⟩
        | ok m' t' =>
          have HD := Lib.hid hd
          clear hd
          go_wp2_with fail
          go_region
          go_wp2_with fail
          refine (decode_any (r.take n) (by simp; omega) _).mono ?_
          rintro e w6 ⟨f6, h6⟩
          rw [HD.out] at h6
          obtain ⟨p', rfl, -⟩ := h6
          have F6 := Lib.hid (Gr.trans FE.out.drew f6)
          clear f6
          go_wp2_with fail
          go_ret
          exact ⟨rfl, Fr.below (Below.refl _ _) (F6.out.alloc _) (Nat.le_refl _) (fun _ h => h.elim)⟩

end Go.Proofs.Ytkclgemkeifbaaa
