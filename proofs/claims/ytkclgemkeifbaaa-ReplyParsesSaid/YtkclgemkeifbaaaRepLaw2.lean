/-
  Replies in plain Lean: what was built is parsed.
-/
import Derived.Test.YtkclgemkeifbaaaRepRead
import Derived.Test.YtkclgemkeifbaaaRepParse
import Derived.Test.YtkclgemkeifbaaaHeadP
namespace Go.Proofs.Ytkclgemkeifbaaa
section
open Go.RowKit Go.Proofs

theorem bytes_app (a b : List Lbl) : bytesL (a ++ b) = bytesL a ++ bytesL b := by unfold bytesL; simp
/-- only the fields of a record's own type -/
def RRec.plain (r : RRec) : RRec := if r.typ = 1 then { r with prio := 0, weight := 0, port := 0, target := [] } else { r with a0 := 0, a1 := 0, a2 := 0, a3 := 0 }
theorem plain_fits (r : RRec) (h : r.Fits) : r.plain.Fits := by
  obtain ⟨h1, h2, h3, h4, h5, h6, h7, h8, h9⟩ := h
  unfold RRec.plain
  split <;> constructor <;> simp only <;> omega
theorem plain_data (r : RRec) : r.plain.data = r.data := by
  unfold RRec.plain
  split
  · rename_i h; simp [RRec.data, h, RRec.addr]
  · rename_i h; simp [RRec.data, h, RRec.serv]
theorem plain_typ (r : RRec) : r.plain.typ = r.typ := by unfold RRec.plain; split <;> rfl
theorem plain_ttl (r : RRec) : r.plain.ttl = r.ttl := by unfold RRec.plain; split <;> rfl
theorem plain_enc (r : RRec) : r.plain.enc = r.enc := by
  unfold RRec.enc
  rw [plain_data, plain_typ, plain_ttl]
theorem plain_code (r : RRec) : r.plain.code = r.code := by
  unfold RRec.code
  rw [plain_typ]
  by_cases h : r.typ = 1
  · rw [if_pos h, if_pos h]
  · rw [if_neg h, if_neg h]
    unfold RRec.plain
    rw [if_neg h]
theorem getNum_four (n : Int) (h0 : 0 ≤ n) (h1 : n ≤ 4294967295) (b : List UInt8) : ((getNum ((numB 4 n ++ b).take 4) : Nat) : Int) = n := by
  rw [List.take_left' (numB_length 4 n)]
  unfold numB
  rw [getNum_bigEnd (by have : (256 : Nat) ^ 4 = 4294967296 := rfl; omega)]
  omega
theorem numB_two (n : Int) : numB 2 n = two n := rfl
theorem drop_two (n : Int) (b : List UInt8) (k : Nat) : (two n ++ b).drop (2 + k) = b.drop k := by
  rw [← List.drop_drop, List.drop_left' (two_length n)]
theorem numAt_drop (l : List UInt8) (i j : Nat) : numAt (l.drop i) j = numAt l (i + j) := by unfold numAt; rw [List.drop_drop]

/-- an SRV record's data is read again -/
theorem servOut_serv (r : RRec) (hf : r.Fits) (hm : mayL r.target = true) : servOut r.serv = .ok r.prio r.weight r.port r.target := by
  have e1 : r.serv = two r.prio ++ (two r.weight ++ (two r.port ++ (bytesL r.target ++ [0]))) := rfl
  have hl : r.serv.length = 6 + (bytesL r.target ++ [0]).length := by rw [e1]; simp only [List.length_append, two_length]; omega
  have d6 : r.serv.drop 6 = bytesL r.target ++ [0] := by
    rw [e1, show 6 = 2 + (2 + (2 + 0)) from rfl, drop_two, drop_two, drop_two, List.drop_zero]
  have n0 : numAt r.serv 0 = r.prio := by rw [e1]; exact numAt_two _ hf.prio.1 hf.prio.2 _
  have n2 : numAt r.serv 2 = r.weight := by
    have : numAt r.serv 2 = numAt (r.serv.drop 2) 0 := by rw [numAt_drop]
    rw [this, e1, List.drop_left' (two_length _)]; exact numAt_two _ hf.weight.1 hf.weight.2 _
  have n4 : numAt r.serv 4 = r.port := by
    have : numAt r.serv 4 = numAt (r.serv.drop 4) 0 := by rw [numAt_drop]
    rw [this, e1, show 4 = 2 + (2 + 0) from rfl, drop_two, drop_two, List.drop_zero]; exact numAt_two _ hf.port.1 hf.port.2 _
  have hr : rd (r.serv.drop 6) 0 0 [] = .ok r.target (lbSize r.target + 1) := by
    have := rd_bytes (a := []) (b := []) (bound := 0) r.target [] (by simpa using hm)
    rw [d6]
    simpa using this
  unfold servOut
  rw [if_neg (by omega), hr, n0, n2, n4]

theorem bt_cons (x : UInt8) (l : List UInt8) : bt (x :: l) 0 = x.toNat := rfl
theorem bt_succ (x : UInt8) (l : List UInt8) (k : Nat) : bt (x :: l) (k + 1) = bt l k := rfl
/-- a record's bytes are read again -/
theorem rdRec_enc (r : RRec) (hf : r.Fits) (hc : r.code = 0) (b : List UInt8) : rdRec (r.enc ++ b) = .ok r.plain b := by
  have hdl := r.data_le hc
  have e1 : r.enc ++ b = two 49164 ++ (two r.typ ++ (two 1 ++ (numB 4 r.ttl ++ (two r.data.length ++ (r.data ++ b))))) := by
    simp [RRec.enc, numB_two]
  have hlen : (r.enc ++ b).length = 12 + r.data.length + b.length := by rw [List.length_append, r.enc_length]
  have n2 : numAt (r.enc ++ b) 2 = r.typ := by
    have : numAt (r.enc ++ b) 2 = numAt ((r.enc ++ b).drop 2) 0 := by rw [numAt_drop]
    rw [this, e1, List.drop_left' (two_length _)]; exact numAt_two _ hf.typ.1 hf.typ.2 _
  have d6 : (r.enc ++ b).drop 6 = numB 4 r.ttl ++ (two r.data.length ++ (r.data ++ b)) := by
    rw [e1, show 6 = 2 + (2 + (2 + 0)) from rfl, drop_two, drop_two, drop_two, List.drop_zero]
  have d10 : (r.enc ++ b).drop 10 = two r.data.length ++ (r.data ++ b) := by
    rw [show 10 = 6 + 4 from rfl, ← List.drop_drop, d6, List.drop_left' (numB_length 4 _)]
  have d12 : (r.enc ++ b).drop 12 = r.data ++ b := by
    rw [show 12 = 10 + 2 from rfl, ← List.drop_drop, d10, List.drop_left' (two_length _)]
  have n6 : num4 (r.enc ++ b) 6 = r.ttl := by unfold num4; rw [d6]; exact getNum_four _ hf.ttl.1 hf.ttl.2 _
  have n10 : numAt (r.enc ++ b) 10 = r.data.length := by
    have : numAt (r.enc ++ b) 10 = numAt ((r.enc ++ b).drop 10) 0 := by rw [numAt_drop]
    rw [this, d10]; exact numAt_two _ (by omega) (by omega) _
  have hn : (numAt (r.enc ++ b) 10).toNat = r.data.length := by rw [n10]; omega
  unfold rdRec
  rw [if_neg (by omega), hn, if_neg (by omega), n2, n6, d12]
  have hrest : (r.enc ++ b).drop (12 + r.data.length) = b := by rw [← List.drop_drop, d12, List.drop_left' rfl]
  by_cases h1 : r.typ = 1
  · have hd : r.data = r.addr := by unfold RRec.data; rw [if_pos h1]
    have h4 : r.data.length = 4 := by rw [hd]; rfl
    rw [if_pos ⟨h1, h4⟩]
    have h16 : (r.enc ++ b).drop 16 = b := by have e := hrest; rw [h4] at e; exact e
    rw [h16, hd]
    congr 1
    have b0 := by1_nat _ hf.a0
    have b1 := by1_nat _ hf.a1
    have b2 := by1_nat _ hf.a2
    have b3 := by1_nat _ hf.a3
    unfold rrecA byAt RRec.plain
    rw [if_pos h1]
    simp only [RRec.addr, List.cons_append, List.nil_append, bt_cons, bt_succ, b0, b1, b2, b3]
    rw [h1]
  · have h33 : r.typ = 33 := by
      unfold RRec.code at hc
      rw [if_neg h1] at hc
      split at hc
      · assumption
      · simp at hc
    have hm : mayL r.target = true := by
      unfold RRec.code at hc
      rw [if_neg h1, if_pos h33] at hc
      split at hc
      · assumption
      · simp at hc
    have hd : r.data = r.serv := by unfold RRec.data; rw [if_neg h1]
    rw [if_neg (by omega), if_pos h33, List.take_left' rfl, hd, servOut_serv r hf hm]
    rw [← hd, hrest]
    congr 1
    unfold RRec.plain
    rw [if_neg h1, h33]
theorem rdRecs_encs : ∀ (l : List RRec) (b : List UInt8), (∀ r ∈ l, r.Fits) → (∀ r ∈ l, r.code = 0) → rdRecs l.length (l.flatMap RRec.enc ++ b) = (l.map RRec.plain, .ok b)
  | [], _, _, _ => rfl
  | r :: l, b, hf, hc => by
    rw [List.length_cons, List.flatMap_cons, List.append_assoc, rdRecs_succ, rdRec_enc r (hf r (by simp)) (hc r (by simp))]
    simp only
    rw [rdRecs_encs l b (fun x hx => hf x (by simp [hx])) (fun x hx => hc x (by simp [hx]))]
    rfl
end
section
open Go.RowKit Go.Proofs

theorem snoc_rec {α : Type} {p : List α → Prop} (h0 : p []) (h1 : ∀ l x, p l → p (l ++ [x])) (l : List α) : p l := by
  have : ∀ n (l : List α), l.length = n → p l := by
    intro n
    induction n with
    | zero => intro l h; rw [List.eq_nil_of_length_eq_zero h]; exact h0
    | succ n ih =>
      intro l h
      have hne : l ≠ [] := by intro h'; rw [h'] at h; simp at h
      rw [← List.dropLast_concat_getLast hne]
      exact h1 _ _ (ih _ (by rw [List.length_dropLast]; omega))
  exact this _ l rfl
/-- which records a reply keeps -/
structure FoldIs (q : List UInt8) (l : List RRec) (st : BSt) : Prop where
  le : st.n ≤ l.length
  body : st.body = q ++ (l.take st.n).flatMap RRec.enc
  cut : st.cut = decide (st.n < l.length)
  next : ∀ r, l[st.n]? = some r → 512 < 12 + st.body.length + r.enc.length
theorem bldFold_is (q : List UInt8) (l : List RRec) : FoldIs q l (bldFold q l) := by
  refine snoc_rec (p := fun l => FoldIs q l (bldFold q l)) ?_ ?_ l
  · exact ⟨Nat.le_refl _, by simp [bldFold], rfl, fun r h => by simp at h⟩
  · intro l x ih
    rw [bldFold_snoc]
    generalize bldFold q l = st at *
    obtain ⟨h1, h2, h3, h4⟩ := ih
    unfold bldStep
    by_cases hc : st.cut = true
    · rw [if_pos (.inl hc)]
      rw [hc] at h3
      have hlt : st.n < l.length := by simpa using h3.symm
      refine ⟨by simp; omega, ?_, ?_, ?_⟩
      · simp only; rw [h2, List.take_append_of_le_length (by omega)]
      · simp only; simp; omega
      · intro r hr
        simp only at hr ⊢
        rw [List.getElem?_append_left hlt] at hr
        exact h4 r hr
    · have hn : st.n = l.length := by
        have : st.cut = false := by simpa using hc
        rw [this] at h3
        have := of_decide_eq_false h3.symm
        omega
      by_cases hb : 512 < 12 + st.body.length + x.enc.length
      · rw [if_pos (.inr hb)]
        refine ⟨by simp; omega, ?_, ?_, ?_⟩
        · simp only; rw [h2, List.take_append_of_le_length (by omega)]
        · simp only; simp; omega
        · intro r hr
          simp only at hr ⊢
          rw [hn, List.getElem?_append_right (Nat.le_refl _)] at hr
          simp at hr
          subst hr
          exact hb
      · rw [if_neg (by simp [hc, hb])]
        refine ⟨by simp; omega, ?_, ?_, ?_⟩
        · simp only
          rw [h2, hn, List.take_of_length_le (Nat.le_refl _), List.take_of_length_le (by simp), List.flatMap_append]
          simp
        · simp only; simp; omega
        · intro r hr
          simp only at hr
          rw [List.getElem?_eq_none (by simp; omega)] at hr
          cases hr
/-- records that all fit -/
theorem bldFold_fit (q : List UInt8) (l : List RRec) (h : 12 + (q ++ l.flatMap RRec.enc).length ≤ 512) : bldFold q l = ⟨q ++ l.flatMap RRec.enc, l.length, false⟩ := by
  revert h
  refine snoc_rec (p := fun l => 12 + (q ++ l.flatMap RRec.enc).length ≤ 512 → bldFold q l = ⟨q ++ l.flatMap RRec.enc, l.length, false⟩) ?_ ?_ l
  · intro _; simp [bldFold]
  · intro l x ih h
    have h' := h
    rw [List.flatMap_append] at h'
    simp only [List.length_append, List.flatMap_cons, List.flatMap_nil, List.append_nil] at h'
    rw [bldFold_snoc, ih (by rw [List.length_append]; omega)]
    unfold bldStep
    rw [if_neg (by
      rintro (h | h)
      · cases h
      · simp only [List.length_append] at h; omega), List.flatMap_append]
    simp
theorem flatMap_plain (l : List RRec) : (l.map RRec.plain).flatMap RRec.enc = l.flatMap RRec.enc := by
  rw [List.flatMap_map]
  congr 1
  funext r
  exact plain_enc r

/-- what a reply that was built tells -/
structure Told (h : Hd) (asked : Bool) (name : List Lbl) (t c code : Int) (l : List RRec) (n : Nat) (S : List UInt8) : Prop where
  le : n ≤ l.length
  len : 12 ≤ S.length ∧ S.length ≤ 512
  hd : hdRead S = bldHd h asked code n (decide (n < l.length))
  out : prsD S = ⟨asked, if asked = true then name else [], if asked = true then t else 0, if asked = true then c else 0, (l.take n).map RRec.plain, 0⟩
  ok : prsOk S = true
  next : ∀ r, l[n]? = some r → 512 < S.length + r.enc.length
  codes : ∀ r ∈ l, r.code = 0

theorem told_build (h : Hd) (hf : h.Fits) (asked : Bool) (name : List Lbl) (t c code : Int) (l : List RRec) (ht : 0 ≤ t ∧ t ≤ 65535) (hc : 0 ≤ c ∧ c ≤ 65535) (hl : ∀ r ∈ l, r.Fits)
    (he : (bldOut h asked name t c code l).2.2 = 0) : Told h asked name t c code l (bldOut h asked name t c code l).2.1 (bldOut h asked name t c code l).1 := by
  unfold bldOut at he ⊢
  by_cases g1 : code < 0 ∨ 15 < code ∨ 15 < h.op
  · rw [if_pos g1] at he; simp at he
  rw [if_neg g1] at he ⊢
  by_cases g2 : asked = false ∧ l ≠ []
  · rw [if_pos g2] at he; simp at he
  rw [if_neg g2] at he ⊢
  by_cases g3 : quesCode asked name ≠ 0
  · rw [if_pos g3] at he; simp at he
  rw [if_neg g3] at he ⊢
  have hbad : ∀ r ∈ l, r.code = 0 := by
    intro r hr
    apply Classical.byContradiction
    intro hne
    cases hb : rbad l with
    | none =>
      unfold rbad at hb
      rw [List.find?_eq_none] at hb
      have := hb r hr
      simp at this
      exact hne this
    | some x =>
      rw [hb] at he
      unfold rbad at hb
      have := List.find?_some hb
      simp at this
      exact this he
  rw [rbad_none hbad]
  simp only
  have hq := quesB_le asked name t c
  have hfold := bldFold_is (quesB asked name t c) l
  have hle := (bldFold_le (quesB asked name t c) (by omega) l)
  obtain ⟨st, hst⟩ : ∃ st, st = bldFold (quesB asked name t c) l := ⟨_, rfl⟩
  rw [← hst] at hfold hle ⊢
  clear hst
  obtain ⟨f1, f2, f3, f4⟩ := hfold
  obtain ⟨n, hn⟩ : ∃ n, n = st.n := ⟨_, rfl⟩
  rw [← hn] at f1 f2 f3 f4 hle ⊢
  rw [f3]
  have hfit := bldHd_fits h hf asked code n (decide (n < l.length)) (by omega) (by omega)
  have hok := bldHd_ok h asked code n (decide (n < l.length)) (by omega) (by omega)
  have hhd : ∀ b, hdRead ((bldHd h asked code n (decide (n < l.length))).bytes ++ b) = bldHd h asked code n (decide (n < l.length)) := fun b => hdRead_app _ hfit hok b
  have hbl := hd_bytes_length (bldHd h asked code n (decide (n < l.length)))
  obtain ⟨S, hS⟩ : ∃ S, S = (bldHd h asked code n (decide (n < l.length))).bytes ++ st.body := ⟨_, rfl⟩
  rw [← hS]
  have hSl : S.length = 12 + st.body.length := by rw [hS, List.length_append, hbl]
  have hSh : hdRead S = bldHd h asked code n (decide (n < l.length)) := by rw [hS]; exact hhd _
  have hSd : S.drop 12 = st.body := by rw [hS, List.drop_left' hbl]
  have htk : (l.take n).length = n := by rw [List.length_take]; omega
  have hrecs : ∀ b, rdRecs n ((l.take n).flatMap RRec.enc ++ b) = ((l.take n).map RRec.plain, .ok b) := by
    intro b
    have := rdRecs_encs (l.take n) b (fun r hr => hl r (List.mem_of_mem_take hr)) (fun r hr => hbad r (List.mem_of_mem_take hr))
    rw [htk] at this
    exact this
  have hout : prsD S = ⟨asked, if asked = true then name else [], if asked = true then t else 0, if asked = true then c else 0, (l.take n).map RRec.plain, 0⟩ := by
    unfold prsD rdReply
    rw [hSh]
    cases asked
    · have hqb : quesB false name t c = [] := by unfold quesB; simp
      rw [hqb] at f2
      have hr := hrecs []
      rw [List.append_nil] at hr
      simp only [bldHd, Bool.false_eq_true, if_false, Int.toNat_natCast]
      rw [if_neg (by decide), hSd, f2, List.nil_append]
      unfold rdBody
      rw [if_neg (by simp), hr]
      rfl
    · have hm : mayL name = true := by
        unfold quesCode at g3
        simp at g3
        exact g3
      have hqb : quesB true name t c = (bytesL name ++ [0]) ++ (numB 2 t ++ numB 2 c) := by unfold quesB; rw [hm]; simp
      rw [hqb] at f2
      simp only [bldHd, if_true, Int.toNat_natCast]
      have hSe : S = ((bldHd h true code n (decide (n < l.length))).bytes ++ bytesL name) ++ 0 :: (two t ++ (two c ++ (l.take n).flatMap RRec.enc)) := by
        rw [hS, f2]; simp [numB_two]
      have hrd : rd S 12 12 [] = .ok name (12 + (lbSize name + 1)) := by
        have := rd_bytes (a := (bldHd h true code n (decide (n < l.length))).bytes) (b := two t ++ (two c ++ (l.take n).flatMap RRec.enc)) (bound := 12) name [] (by simpa using hm)
        rw [hbl] at this
        rw [hSe]
        simpa using this
      have hdr : S.drop (12 + (lbSize name + 1)) = two t ++ (two c ++ (l.take n).flatMap RRec.enc) := by
        have e : S = ((bldHd h true code n (decide (n < l.length))).bytes ++ (bytesL name ++ [0])) ++ (two t ++ (two c ++ (l.take n).flatMap RRec.enc)) := by rw [hSe]; simp
        rw [e, List.drop_left']
        simp [hbl, lbSize_bytes]
      rw [hrd]
      simp only
      rw [hdr]
      have n0 : numAt (two t ++ (two c ++ (l.take n).flatMap RRec.enc)) 0 = t := numAt_two _ ht.1 ht.2 _
      have n2 : numAt (two t ++ (two c ++ (l.take n).flatMap RRec.enc)) 2 = c := by
        have e : numAt (two t ++ (two c ++ (l.take n).flatMap RRec.enc)) 2 = numAt ((two t ++ (two c ++ (l.take n).flatMap RRec.enc)).drop 2) 0 := by rw [numAt_drop]
        rw [e, List.drop_left' (two_length _)]; exact numAt_two _ hc.1 hc.2 _
      have hr := hrecs []
      rw [List.append_nil] at hr
      unfold rdBody
      rw [if_pos rfl, if_neg (by simp only [List.length_append, two_length]; omega), if_neg (by simp only [List.length_append, two_length]; omega), n0, n2]
      rw [show (4 : Nat) = 2 + (2 + 0) from rfl, drop_two, drop_two, List.drop_zero, hr]
      rfl
  have hbod : st.body.length ≤ 500 := hle.1
  have hB : prsB S = ((bldHd h asked code n false).bytes ++ st.body, n, 0) := by
    unfold prsB
    rw [hSh, hout]
    have hcode : (bldHd h asked code n (decide (n < l.length))).code = code := rfl
    rw [hcode]
    unfold bldOut
    have hop : (hdAsked (prsHd (bldHd h asked code n (decide (n < l.length)))) asked).op = h.op := by unfold hdAsked; split <;> rfl
    simp only [hop]
    rw [if_neg g1]
    have g2' : ¬ (asked = false ∧ (l.take n).map RRec.plain ≠ []) := by
      rintro ⟨ha, hne⟩
      apply g2
      refine ⟨ha, ?_⟩
      intro hnil
      rw [hnil] at hne
      simp at hne
    rw [if_neg g2']
    have hqc : quesCode asked (if asked = true then name else []) = quesCode asked name := by cases asked <;> simp [quesCode]
    rw [hqc, if_neg g3]
    have hqb : quesB asked (if asked = true then name else []) (if asked = true then t else 0) (if asked = true then c else 0) = quesB asked name t c := by cases asked <;> simp [quesB]
    rw [hqb]
    have hb2 : rbad ((l.take n).map RRec.plain) = none := rbad_none (by
      intro r hr
      obtain ⟨x, hx, rfl⟩ := List.mem_map.1 hr
      rw [plain_code]
      exact hbad x (List.mem_of_mem_take hx))
    rw [hb2]
    simp only
    have hfo : bldFold (quesB asked name t c) ((l.take n).map RRec.plain) = ⟨st.body, n, false⟩ := by
      rw [bldFold_fit _ _ (by rw [flatMap_plain, ← f2]; omega), flatMap_plain, ← f2, List.length_map, htk]
    rw [hfo]
    simp only
    have hhd2 : bldHd (hdAsked (prsHd (bldHd h asked code n (decide (n < l.length)))) asked) asked code n false = bldHd h asked code n false := by
      cases asked <;> rfl
    rw [hhd2]
  refine ⟨f1, by omega, hSh, hout, ?_, fun r hr => by have := f4 r hr; omega, hbad⟩
  unfold prsOk
  rw [hout, hB, hSh, hSd]
  have : ({ bldHd h asked code n (decide (n < l.length)) with trunc := false } : Hd) = bldHd h asked code n false := rfl
  rw [this]
  simp
end
end Go.Proofs.Ytkclgemkeifbaaa
