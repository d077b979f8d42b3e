/-
  DigestPieces: how bytes are cut has no part, whatever is copied, saved, loaded between.
-/
import Derived.Test.YtfedlgcpgfofjaaDoorDSaveLoad
import Derived.Deep.DeepCutAuto
namespace Go.Proofs.YtfedlgcpgfofjaaDoor.Sha
open Go.RowKit Go.Proofs.YtfedlgcpgfofjaaDoorW.PrintWords Go.Proofs.YtfedlgcpgfofjaaDoor.PAll Go.Proofs.YtfedlgcpgfofjaaDoor.Plain
set_option linter.unusedVariables false
set_option linter.unusedSimpArgs false
theorem C8.midS {w : World} {b o n c : Nat} {p : List Nat} (h : C8 w (some ⟨b, o, none⟩) n p) (lo hi : Nat) (h1 : lo ≤ hi) (h2 : hi ≤ n) (h3 : n ≤ c) :
    C8 w (if c = lo then some ⟨b, o, none⟩ else some ⟨b, o + lo, none⟩) (hi - lo) ((p.take hi).drop lo) := by
  have hn := h.len
  have hl : ((p.take hi).drop lo).length = hi - lo := by rw [List.length_drop, List.length_take]; omega
  by_cases h0 : hi - lo = 0
  · have e : (p.take hi).drop lo = [] := List.eq_nil_of_length_eq_zero (by omega)
    rw [e, h0]
    exact C8.nil _ _
  · obtain ⟨b', o', e, hlt, hbs⟩ := h.at_ (by omega)
    injection e with e
    injection e with e1 e2 e3
    subst e1 e2
    rw [if_neg (by omega)]
    have hb : Bs w b (o + lo) ((p.take hi).drop lo) := fun j hj => by
      rw [hl] at hj
      have := hbs (lo + j) (by omega)
      rw [show o + (lo + j) = o + lo + j by omega] at this
      rw [this, List.getD_eq_getElem?_getD, List.getD_eq_getElem?_getD, List.getElem?_drop, List.getElem?_take_of_lt (by omega)]
    have h9 := h.2.1
    have := C8.of_Bs hb (by omega)
    rwa [hl] at this
theorem HashAt.grownP {w w' : World} {g : Nat} {r all : List Nat} {past : Nat} {row : Option Nat} (h : HashAt w g r past all) (hb : w.grownBy w' row) (hg : row ≠ some g) : HashAt w' g r past all := h.keep (hb.block g h.lt (fun e => hg e.symm))
theorem C8.midA {w : World} {A : Option Addr} {n c : Nat} {p : List Nat} (h : C8 w A n p) (lo hi : Nat) (h1 : lo ≤ hi) (h2 : hi ≤ n) (h3 : n ≤ c) :
    C8 w (if c = lo then A else A.map (·.add lo)) (hi - lo) ((p.take hi).drop lo) := by
  rcases Nat.eq_zero_or_pos n with h0 | h0
  · have hn := h.len
    have e : (p.take hi).drop lo = [] := List.eq_nil_of_length_eq_zero (by rw [List.length_drop, List.length_take]; omega)
    rw [e, show hi - lo = 0 by omega]
    exact C8.nil _ _
  · obtain ⟨b, o, rfl, _⟩ := h.at_ h0
    have h4 := h.midS (c := c) lo hi h1 h2 h3
    simpa [Addr.add_mid] using h4
theorem num_anyP (e : Int) (w : World) : Calls Tryd.prog 31 #[.int .i64 e] w fun x w' => x = .returned (.int .i64 e) ∧ Below w.heap.size w w' :=
  (wicketlaw02_num.calls e e w rfl).mono fun x w' ⟨h, hd⟩ => ⟨h, hd.below⟩
theorem load_saved (all : List Nat) (A : Option Addr) (n c : Nat) (w : World) (hall : All 256 all) (hmax : all.length ≤ 1152921504606846976) (hn : n = (saveOf first 0 all).length) (hc : n ≤ c) (hC : C8 w A (saveOf first 0 all).length (saveOf first 0 all)) (hf : TabF w) :
    Calls Tryd.prog 45 #[.slice A n c] w fun e w' => e = .returned (.tuple #[.pointer (some ⟨w.heap.size, 0, none⟩), .int .i64 0]) ∧ HashAt w' w.heap.size first 0 all ∧ Below w.heap.size w w' := by
  have ha : All 256 (saveOf first 0 all) := by
    unfold saveOf
    exact ((bytesR_all _).app ((tailOf_all hall).app (All.rep (by decide) _))).app (eight_all _)
  refine (load_any (saveOf first 0 all) A n c w hn hc ha hC hf).mono fun e w' ⟨hb, h⟩ => ?_
  rcases h with ⟨h1, h2⟩ | ⟨h1, h2, h3⟩
  · exact absurd (save_loads all hmax) h1
  · exact ⟨h2, save_hash w' _ all hall hmax h3, hb⟩
theorem run_neq24 (D : List Nat) (hD : D.length = 32) (W : World) : (binOp .neq 24 (.agg (D.map v8).toArray) (.agg (D.map v8).toArray)).run Tryd.prog W = .ok (.bool false) W := by
  obtain ⟨i, hi⟩ : ∃ i, Tryd.prog.info? 5 = some i := by
    have := info5_size
    cases h : Tryd.prog.info? 5 with
    | none => rw [h] at this; cases this
    | some i => exact ⟨i, rfl⟩
  have h := run_equalIn_array (P := Tryd.prog) W 9999 (D.map v8).toArray (D.map v8).toArray Tryd.underlying24 hi
  rw [cells5, run_eqItems_bytes 9998 D D W _ (fun i hi => by have := List.mem_range.1 hi; omega)] at h
  have e : ((List.range 32).all fun i => decide (D.getD i 0 = D.getD i 0)) = true := by simp
  rw [e] at h
  simp only [binOp]
  simp [Op.equal, Op.maxDepth, h]
section
variable {P : Program} {w : World} {ops : Array Oper} {rest : List Oper} {o : Oper} {a : Act} {Q : Exit → Act → World → Prop}
theorem wprP_if {E : Prop} {K : Act → World → Prop} (hgd : Region.wanted o (yielded ops a.tmps) = true) (h : Oper.wp P o a w K Q) : if Region.wanted o (yielded ops a.tmps) = true then Oper.wp P o a w K Q else E := by
  rw [if_pos hgd]
  exact h
theorem wprP_append {K : Act → World → Prop} (s x : Operand) (t : TypeId) (ho : o.op = .call { callee := .builtin .append, args := #[s, x], argTypes := #[t, t] })
    (hinfo : (P.info? 5).map (fun i => (i.zero, i.size, i.bytes)) = some (some (.int .u8 0), 1, 1)) (ht : P.underlying t = some (.slice 5)) (base : Nat)
    (v : Value) (p : List Nat) (hs : a.eval s = v) (hown : Own w base v p) (A : Option Addr) (c n : Nat) (q : List Nat) (hx : a.eval x = .slice A n c) (hn : n = q.length) (hr : C8 w A q.length q)
    (hbytes : p.length + q.length ≤ 140737488355328) (hbase : base ≤ w.heap.size)
    (h : ∀ v' w', Own w' base v' (p ++ q) → w.grownBy w' v.ownBlock → (v'.ownBlock = v.ownBlock ∨ v'.ownBlock = some w.heap.size) → K (a.put o.dst v') w') : Oper.wp P o a w K Q := by
  subst hn
  obtain ⟨v', w', hrun, h2, h3, h4⟩ := run_append_ (P := P) w base t o.type hinfo ht v p hown A c q hr hbytes hbase
  unfold Oper.wp execOp
  simp only [ho, resolve, invoke, builtin, Sem.run_bind, Sem.run_pure, Result.andThen_ok, List.map_toArray, List.map_cons, List.map_nil, hs, hx, hrun]
  exact h v' w' h2 h3 h4
end
theorem take_mid (p : List Nat) (at_ k : Nat) (h : at_ + k ≤ p.length) : p.take at_ ++ (p.take (at_ + k)).drop at_ = p.take (at_ + k) := by
  have e : p.take at_ = (p.take (at_ + k)).take at_ := by rw [List.take_take, Nat.min_eq_left (by omega)]
  rw [e, List.take_append_drop]
set_option maxRecDepth 100000 in
set_option maxHeartbeats 2000000 in
theorem law_pieces (p : List Nat) (zs : List Int) (A : Option Addr) (n c : Nat) (AC : Option Addr) (cn cc : Nat) (w : World) (hn : n = p.length) (hm : n ≤ 140737488351232) (hc : n ≤ c) (hpa : All 256 p) (hC : C8 w A p.length p)
    (hcn : cn = zs.length) (hcm : cn ≤ 140737488351232) (hz : ∀ (i : Nat) (z : Int), zs[i]? = some z → -9223372036854775808 ≤ z ∧ z ≤ 9223372036854775807 ∧ ∃ adc, AC = some adc ∧ w.cell? (adc.add i) = some (.int .i64 z)) (hT : TabsP w) :
    Calls Tryd.prog 12 #[.slice A n c, .slice AC cn cc] w fun e w' => e = .returned (.bool true) ∧ Below w.heap.size w w' := by
  have HN := Lib.hid hn; have HC := Lib.hid hC; have HPA := Lib.hid hpa; have HZ := Lib.hid hz; have HT := Lib.hid hT; have HCN := Lib.hid hcn
  have hF := hT.2.1
  clear hn hC hpa hz hT hcn
  have kc := fun (w : World) (C : Array Value) (n c : Nat) => Lib.run_convert_bytes_const (P := Tryd.prog) w 22 5 C n c Tryd.underlying22 Tryd.underlying5
  go_enter Tryd.func12, Tryd.ntmps12
  go_wp2_with (
    go_at_call 25; (with_reducible refine (new_any _ hF).mono ?_); rintro e w1 ⟨rfl, hw1⟩
    have H1 : HashAt w1 w.heap.size first 0 [] := by rw [← hw1]; exact hash_new w
    have hb1 : Below w.heap.size w w1 := by rw [← hw1]; exact (Below.refl w.heap.size w).alloc (Nat.le_refl _) _
    clear hw1)
  go_loopw [5, 6, 7, 8, 9, 10, 11, 12] (fun v5 v6 v7 _ _ _ _ _ wr => ∃ g at_ i : Nat, v5 = .pointer (some ⟨g, 0, none⟩) ∧ w.heap.size ≤ g ∧ v6 = .int .i64 (at_ : Int) ∧ at_ ≤ n ∧ v7 = .int .i64 (i : Int) ∧ i ≤ cn ∧ HashAt wr g first 0 (p.take at_) ∧ Below w.heap.size w wr) (fun _ _ v7 _ _ _ _ _ _ => cn - (intOf v7).toNat)
  case atStart => exact ⟨w.heap.size, 0, 0, rfl, Nat.le_refl _, rfl, by omega, rfl, by omega, H1, hb1⟩
  case round =>
    clear H1 hb1 hF
    obtain ⟨g, at_, i, rfl, hg, rfl, hat, rfl, hi, H, hb⟩ := hrel
    have hs := hb.size
    by_cases hlt : i < cn
    · obtain ⟨z, hzi⟩ : ∃ z, zs[i]? = some z := ⟨_, List.getElem?_eq_getElem (by rw [← HCN.out]; exact hlt)⟩
      obtain ⟨z0, z1, adc, hAC, zc⟩ := HZ.out i z hzi
      subst hAC
      have c0 : wr.cell? (adc.add i) = some (.int .i64 z) := (hb.cell (World.block_lt_of_cell? w _ zc)).trans zc
      have HZC := Lib.hid zc; have HH := Lib.hid H
      clear hzi zc H
      have i0 : (0 : Int) ≤ (i : Int) := by omega
      have i1 : (i : Int) < (cn : Int) := by omega
      have a0 : (0 : Int) ≤ (at_ : Int) := by omega
      have a1 : (at_ : Int) ≤ (n : Int) := by omega
      have w1_ : IntKind.i64.wrap ((n : Int) - (at_ : Int)) = (n : Int) - (at_ : Int) := IntWalk.i64_in _ (by omega)
      by_cases hz : z < 0 ∨ z > (n : Int) - (at_ : Int)
      · by_cases hneg : z < 0
        · go_wp2
          go_roundw
          case rel => exact ⟨g, at_, i + 1, rfl, hg, rfl, hat, by go_num, by omega, HH.out, hb⟩
          case measure => simp [intOf]; omega
        · have hgt : z > (n : Int) - (at_ : Int) := by omega
          go_wp2
          go_roundw
          case rel => exact ⟨g, at_, i + 1, rfl, hg, rfl, hat, by go_num, by omega, HH.out, hb⟩
          case measure => simp [intOf]; omega
      · obtain ⟨k, rfl⟩ : ∃ k : Nat, z = (k : Int) := ⟨z.toNat, by omega⟩
        have hk : at_ + k ≤ n := by omega
        have q0 : ¬ ((k : Int) < 0) := by omega
        have q1 : ¬ ((k : Int) > (n : Int) - (at_ : Int)) := by omega
        have q2 : IntKind.i64.wrap ((at_ : Int) + (k : Int)) = (at_ : Int) + (k : Int) := IntWalk.i64_in _ (by omega)
        have q3 : (at_ : Int) ≤ (at_ : Int) + (k : Int) := by omega
        have q4 : (at_ : Int) + (k : Int) ≤ (c : Int) := by omega
        have q5 : ((at_ : Int) + (k : Int)).toNat = at_ + k := by omega
        have q6 : (0 : Int) ≤ (at_ : Int) + (k : Int) := by omega
        have hH := HH.out
        have hgl := hH.lt
        have hall : All 256 (p.take at_) := fun x hx => HPA.out x (List.mem_of_mem_take hx)
        have hC2 := HC.out.below hb
        rw [← HN.out] at hC2
        have hmid := hC2.midA (c := c) at_ (at_ + k) (by omega) hk hc
        rw [Nat.add_sub_cancel_left] at hmid
        obtain ⟨Q, hQ⟩ : ∃ Q, Q = (p.take (at_ + k)).drop at_ := ⟨_, rfl⟩
        rw [← hQ] at hmid
        have hQl : k = Q.length := hmid.len.symm
        have hQa : All 256 Q := by rw [hQ]; exact fun x hx => HPA.out x (List.mem_of_mem_take (List.mem_of_mem_drop hx))
        have hnext : p.take at_ ++ Q = p.take (at_ + k) := by rw [hQ]; exact take_mid p at_ k (by rw [← HN.out]; exact hk)
        have htl : (p.take at_).length = at_ := by rw [List.length_take, ← HN.out]; omega
        obtain ⟨PT, hPT⟩ : ∃ X, X = p.take at_ := ⟨_, rfl⟩
        obtain ⟨PN, hPN⟩ : ∃ X, X = p.take (at_ + k) := ⟨_, rfl⟩
        have hPNl : PN.length = at_ + k := by rw [hPN, List.length_take, ← HN.out]; omega
        have hPNa : All 256 PN := by rw [hPN]; exact fun x hx => HPA.out x (List.mem_of_mem_take hx)
        rw [← hPT, ← hPN] at hnext
        rw [← hPT] at hH hall htl
        have HHH := Lib.hid hH; have HQL := Lib.hid hQl; have HQA := Lib.hid hQa; have HNX := Lib.hid hnext; have HTLL := Lib.hid htl; have HMID := Lib.hid hmid; have HPNL := Lib.hid hPNl; have HPNA := Lib.hid hPNa; have HPN := Lib.hid hPN
        have hT1 := HT.out.below hb
        have h1w := hT1.2.2
        clear hz hH hC2 hmid hQ hQl hQa hnext htl hPT hPN hPNl hPNa HH
        go_upto_region 12 with (first
          | (at_builtin; refine wpl_append rfl _ _ _ rfl info_byte Tryd.underlying22 wr.heap.size (.slice (some ⟨wr.heap.size, 0, none⟩) 0 0) [] rfl (Own.nil_alloc wr _ _ rfl (Nat.le_refl _)) _ _ k Q rfl HQL.out
                (by rw [← HQL.out]; exact HMID.out.below ((Below.refl _ _).alloc (Nat.le_refl _) _)) (by rw [← HQL.out]; simp; omega) (by simp) ?_
             intro v2 w2 O2 G2 P2
             rw [List.nil_append] at O2
             have hb2 : Below wr.heap.size wr w2 := ((Below.refl _ _).alloc (Nat.le_refl _) _).grown G2 (by simp) (by simp [Value.ownBlock])
             have hb2' := hb.trans (hb2.mono hs)
             have H2 := HHH.out.below hb2
             obtain ⟨A2, n2, c2, hn2, hv2, hC2⟩ := O2.arg_
             subst hv2
             have hle2 := (Own.c8 O2).2.1
             have hne2 : 0 < Q.length → ∀ b' o', A2 = some ⟨b', o', none⟩ → b' ≠ g := fun _ b' o' e => by
               subst e
               have := (O2.lt b' rfl).1
               omega
             have HN2 := Lib.hid hn2; have HC2 := Lib.hid hC2; have HNE2 := Lib.hid hne2
             have hT2 := HT.out.below hb2'
             have hlen2 : 0 + PT.length + Q.length ≤ 2305843009213693952 := by rw [HTLL.out, ← HQL.out]; omega
             have hg1 : 1 ≠ g := by have := HT.out.2.2; omega
             have t2a := hT2.1
             have t2b := hT2.2.2
             have HL2 := Lib.hid hlen2
             clear G2 P2 O2 hn2 hC2 hne2 hT2 hlen2 hb2)
          | (go_at_call 18; (with_reducible refine (write_c g 0 first PT Q A2 n2 c2 _ first_len first_all (Nat.zero_mod 64) HL2.out H2 hall HN2.out hle2 HQA.out HC2.out HNE2.out t2a t2b hg1).mono ?_); rintro e w3 ⟨rfl, H3, G3⟩
             rw [HNX.out] at H3
             have hb3 := hb2'.grown G3 hb2'.size (fun k hk => by injection hk; omega)
             have t3a := (HT.out.below hb3).1
             have t3b := (HT.out.below hb3).2.2
             have l3 : 0 + PN.length ≤ 1152921504606846976 + 150000000000000 := by rw [HPNL.out]; omega
             have HL3 := Lib.hid l3
             have l4 : PN.length ≤ 1152921504606846976 := by rw [HPNL.out]; omega
             have HL4 := Lib.hid l4
             clear l4
             clear G3 H2 t2a t2b l3)
          | (go_at_call 19; (with_reducible refine (hsum_any g 0 first PN _ first_len first_all (Nat.zero_mod 64) HL3.out H3 HPNA.out t3a t3b).mono ?_); rintro e w4 ⟨rfl, hb4⟩
             have hb4' := hb3.trans (hb4.mono hb3.size)
             have H4 := H3.below hb4
             clear hb4)
          | (refine wpl_store rfl 24 _ _ rfl w4.heap.size 0 rfl 24 [] ((List.replicate 32 0).map v8) [] ((total first 0 PN).map v8) rfl (by rw [List.nil_append, List.append_nil]; exact Blk.new w4 24 (c8 (List.replicate 32 0))) rfl (by rw [List.length_map, total_len _ _ _ first_len]; rfl) (by rw [List.length_map, total_len _ _ _ first_len]; kernel_rfl) (v8_one _) ?_; intro w5 B5 Q5
             have hb5 : Below w4.heap.size w4 w5 := Q5.below ((Below.refl _ _).alloc (Nat.le_refl _) _) (Nat.le_refl _)
             have hb5' := hb4'.trans (hb5.mono hb4'.size)
             have H5 := H4.below hb5
             have hs5 := hb5'.size
             have hg5 : g < w4.heap.size := H4.lt
             clear hb5 Q5 H4))
        all_goals
          obtain ⟨DS, hDS⟩ : ∃ X, X = total first 0 PN := ⟨_, rfl⟩
          rw [← hDS] at B5
          have HDS := Lib.hid hDS
          clear hDS
          have hmod : i % 3 = 0 ∨ i % 3 = 1 ∨ i % 3 = 2 := by omega
          have m0 : Int.tmod (i : Int) 3 = ((i % 3 : Nat) : Int) := rfl
          rcases hmod with h3 | h3 | h3
          case' inl =>
            rw [h3] at m0
            have m1 : (i : Int) % 3 = 0 := by omega
            go_upto_region 22 with fail
            obtain ⟨w6, hw6⟩ : ∃ V, V = w5 := ⟨_, rfl⟩
            subst hw6
            obtain ⟨g6, hg6⟩ : ∃ x, x = g := ⟨_, rfl⟩
            subst hg6
            have H6 := H5
            have hb6 := hb5'
            have B6 := B5
            have hgne : g6 ≠ w4.heap.size := by omega
            have hgb : w.heap.size ≤ g6 := hg
            clear H5 hb5' B5 hs5
          case' inr.inl =>
            rw [h3] at m0
            have m1 : (i : Int) % 3 = 1 := by omega
            go_upto_region 22 with (first
              | (go_at_call 21; (with_reducible refine (copy_any g 0 first PN _ first_len H5).mono ?_); rintro e wq ⟨rfl, Hc, hbq⟩
                 have hbq' := hb5'.trans (hbq.mono hs5)
                 have Hq := H5.below hbq
                 have Bq := B5.below hbq B5.lt
                 have hsq := hbq'.size
                 have hqq := hbq.size
                 clear hbq)
              | (go_at_call 18
                 (have lc := C8.lit wq [115, 112, 111, 105, 108, 116] wq.heap.size 6 (6, 7) rfl rfl (by decide)
                  have hne : 0 < ([115, 112, 111, 105, 108, 116] : List Nat).length → ∀ b' o', some (Addr.mk wq.heap.size 0 none) = some ⟨b', o', none⟩ → b' ≠ g := fun _ b' o' e => by injection e with e; injection e with e; have := Hq.lt; omega
                  have hlen : 0 + PN.length + ([115, 112, 111, 105, 108, 116] : List Nat).length ≤ 2305843009213693952 := by rw [HPNL.out]; simp; omega
                  have hbl := hbq'.alloc hbq'.size (.cells (c8 [115, 112, 111, 105, 108, 116]) 5 (6, 7))
                  have ta := (HT.out.below hbl).1
                  have tb := (HT.out.below hbl).2.2
                  have hg1 : 1 ≠ g := by have := HT.out.2.2; omega
                  refine (write_c g 0 first PN [115, 112, 111, 105, 108, 116] _ 6 6 _ first_len first_all (Nat.zero_mod 64) hlen (Hq.alloc _) HPNA.out rfl (Nat.le_refl 6) (all_dec rfl) lc hne ta tb hg1).mono ?_
                  rintro e w6 ⟨rfl, Hx, Gx⟩
                  have hb_w6 : Below w.heap.size w w6 := hbl.grown Gx hbl.size (fun k hk => by injection hk; omega)
                  have H6 : HashAt w6 w5.heap.size first 0 PN := (Hc.alloc _).grownP Gx (fun e => by injection e with e; have := H5.lt; omega)
                  have B6 := (Bq.alloc _).grown Gx (fun e => by injection e with e; omega)
                  have hb6 := hb_w6
                  clear lc hne hlen hbl ta tb hg1 Hx Gx))
            )
            obtain ⟨g6, hg6⟩ : ∃ x, x = w5.heap.size := ⟨_, rfl⟩
            rw [← hg6] at H6
            rw [← hg6]
            have hgne : g6 ≠ w4.heap.size := by have := B5.lt; omega
            have hgb : w.heap.size ≤ g6 := by omega
            have HG6 := Lib.hid hg6
            clear hg6
            clear H5 hb5' B5 Hc Hq Bq hbq' hb_w6
          case' inr.inr =>
            rw [h3] at m0
            have m1 : (i : Int) % 3 = 2 := by omega
            go_upto_region 22 with (first
              | (go_at_call 22; (with_reducible refine (save_any g 0 first PN _ first_len first_all (Nat.zero_mod 64) HL3.out H5 HPNA.out).mono ?_); rintro e wv ⟨vv, rfl, Ov, hbv⟩
                 have hbv' := hb5'.trans (hbv.mono hs5)
                 have Hv := H5.below hbv
                 have Bv := B5.below hbv B5.lt
                 have hsv := hbv'.size
                 have hvv := hbv.size
                 obtain ⟨Av, nv, cv, hnv, hvv2, hCv⟩ := Ov.arg_
                 subst hvv2
                 have hlev := (Own.c8 Ov).2.1
                 have HNV := Lib.hid hnv; have HCV := Lib.hid hCv
                 have tv := (HT.out.below hbv').2.1
                 clear hbv hnv hCv Ov)
              | (go_at_call 45; (with_reducible refine (load_saved PN Av nv cv _ HPNA.out HL4.out HNV.out hlev HCV.out tv).mono ?_); rintro e ww ⟨rfl, Hc0, hbw⟩
                 have hbw' := hbv'.trans (hbw.mono hsv)
                 have Hw := Hv.below hbw
                 have Bw := Bv.below hbw Bv.lt
                 have hsw := hbw'.size
                 have hww := hbw.size
                 clear hbw)
              | (go_at_call 31; (with_reducible refine (num_anyP 0 _).mono ?_); rintro e ws ⟨rfl, hbs⟩
                 have hbs' := hbw'.trans (hbs.mono hsw)
                 have Hs := Hw.below hbs
                 have Hc := Hc0.below hbs
                 have Bs := Bw.below hbs Bw.lt
                 have hss := hbs'.size
                 have hss2 := hbs.size
                 clear hbs)
              | (go_at_call 18
                 (have lc := C8.lit ws [115, 112, 111, 105, 108, 116] ws.heap.size 6 (6, 7) rfl rfl (by decide)
                  have hne : 0 < ([115, 112, 111, 105, 108, 116] : List Nat).length → ∀ b' o', some (Addr.mk ws.heap.size 0 none) = some ⟨b', o', none⟩ → b' ≠ g := fun _ b' o' e => by injection e with e; injection e with e; have := Hs.lt; omega
                  have hlen : 0 + PN.length + ([115, 112, 111, 105, 108, 116] : List Nat).length ≤ 2305843009213693952 := by rw [HPNL.out]; simp; omega
                  have hbl := hbs'.alloc hbs'.size (.cells (c8 [115, 112, 111, 105, 108, 116]) 5 (6, 7))
                  have ta := (HT.out.below hbl).1
                  have tb := (HT.out.below hbl).2.2
                  have hg1 : 1 ≠ g := by have := HT.out.2.2; omega
                  refine (write_c g 0 first PN [115, 112, 111, 105, 108, 116] _ 6 6 _ first_len first_all (Nat.zero_mod 64) hlen (Hs.alloc _) HPNA.out rfl (Nat.le_refl 6) (all_dec rfl) lc hne ta tb hg1).mono ?_
                  rintro e w6 ⟨rfl, Hx, Gx⟩
                  have hb_w6 : Below w.heap.size w w6 := hbl.grown Gx hbl.size (fun k hk => by injection hk; omega)
                  have H6 : HashAt w6 wv.heap.size first 0 PN := (Hc.alloc _).grownP Gx (fun e => by injection e with e; have := Hv.lt; omega)
                  have B6 := (Bs.alloc _).grown Gx (fun e => by injection e with e; omega)
                  have hb6 := hb_w6
                  clear lc hne hlen hbl ta tb hg1 Hx Gx))
            )
            obtain ⟨g6, hg6⟩ : ∃ x, x = wv.heap.size := ⟨_, rfl⟩
            rw [← hg6] at H6
            rw [← hg6]
            have hgne : g6 ≠ w4.heap.size := by have := Bv.lt; omega
            have hgb : w.heap.size ≤ g6 := by omega
            have HG6 := Lib.hid hg6
            clear hg6
            clear H5 hb5' B5 Hv Bv hbv' Hc0 Hw Bw hbw' Hs Hc Bs hbs' hb_w6
          all_goals
            have hDSl : DS.length = 32 := by rw [HDS.out]; exact total_len _ _ _ first_len
            have hsum : ∀ V : World, HashAt V g6 first 0 PN → Tab1 V → 1 < V.heap.size → Calls Tryd.prog 19 #[.pointer (some ⟨g6, 0, none⟩)] V fun e w' => e = .returned (.agg (DS.map v8).toArray) ∧ Below V.heap.size V w' := fun V h1 h2 h3 => by
              rw [HDS.out]; exact hsum_any g6 0 first PN V first_len first_all (Nat.zero_mod 64) HL3.out h1 HPNA.out h2 h3
            have hneq : ∀ V : World, (binOp .neq 24 (.agg (DS.map v8).toArray) (.agg (DS.map v8).toArray)).run Tryd.prog V = .ok (.bool false) V := fun V => run_neq24 DS hDSl V
            have r6 := range_of_blk B6
            simp only [List.length_nil] at r6
            have lt6 := B6.lt
            have t6a := (HT.out.below hb6).1
            have t6b := (HT.out.below hb6).2.2
            have HSUM := Lib.hid hsum; have HB6 := Lib.hid hb6; have HH6 := Lib.hid H6; have HDL := Lib.hid hDSl
            have hu := Tryd.underlying24
            have hi24 : (Tryd.prog.info? 24).map (·.size) = some (DS.map v8).length := by rw [List.length_map, hDSl]; kernel_rfl
            have hsum2 : ∀ (V : World) (A' : Option Addr) (n' c' : Nat), Below w.heap.size w V → n' = PN.length → n' ≤ c' → C8 V A' PN.length PN → Calls Tryd.prog 14 #[.slice A' n' c'] V fun e w' => e = .returned (.agg (DS.map v8).toArray) ∧ Below V.heap.size V w' := fun V A' n' c' h0 h1 h2 h3 => by
              rw [HDS.out]; subst h1; exact sum_any PN A' c' V (by rw [HPNL.out]; omega) h2 HPNA.out h3 (HT.out.below h0).1 (HT.out.below h0).2.1 (HT.out.below h0).2.2
            have hpre : C8 w A (at_ + k) PN := by
              have h := HC.out.take (at_ + k) (by rw [← HN.out]; exact hk)
              rwa [← HPN.out] at h
            have HSUM2 := Lib.hid hsum2; have HPRE := Lib.hid hpre
            clear hsum2 hpre
            clear hsum hb6 H6 B6 hDSl
            refine wp_region_noPanic ?_
            refine wp_region_held_drew (S := (fun w' => w'.rangeAt w4.heap.size 0 (DS.map v8))) (by kernel_rfl) ?_ (fun hHeld => ?_)
            · exact r6
            refine wpAnyH_take (i := 0) (oi := _) (v := ?_) rfl (by kernel_rfl) (by kernel_rfl) (by kernel_rfl) (fun _ _ _ h => h) (Or.inl ⟨by rfl, ?_⟩) hHeld ?_
            rotate_left
            · intro w hSw
              go_simp
              all_goals (with_reducible rfl)
            try simp only [Act.put, List.setIfInBounds_toArray, List.set_cons_zero, List.set_cons_succ]
            refine wpAnyH_take (i := 2) (oi := _) (v := _) rfl (by kernel_rfl) (by kernel_rfl) (by kernel_rfl) (fun _ _ _ h => h) (yieldsIf_load_mid (by rfl) 24 _ rfl w4.heap.size 0 rfl (DS.map v8) _ (fun w hSw => hSw) hu rfl hi24) hHeld ?_
            try simp only [Act.put, List.setIfInBounds_toArray, List.set_cons_zero, List.set_cons_succ]
            refine wpAnyH_ready (rs := [1]) (by kernel_rfl) (by simp) ?_
            refine AllReadyH.cons (o := _) rfl (fun K hK => ?_) AllReadyH.nil
            go_simp
            refine (HSUM.out _ (by exact HH6.out) (by exact t6a) (by exact t6b)).mono ?_
            rintro e w7 ⟨rfl, hb7⟩
            have hb7w : Below w6.heap.size w6 w7 := ⟨hb7.os, hb7.tape, hb7.output, hb7.size, hb7.block⟩
            have r7 : w7.rangeAt w4.heap.size 0 (DS.map v8) := range_below r6 hb7w lt6
            have hb7' := HB6.out.trans (hb7w.mono HB6.out.size)
            have H7 := HH6.out.below hb7w
            have lt7 := Nat.lt_of_lt_of_le lt6 hb7w.size
            clear hb7
            refine hK.out _ _ r7 (fun hHeld => ?_)
            clear hK K
            try simp only [Act.put, List.setIfInBounds_toArray, List.set_cons_zero, List.set_cons_succ]
            refine wpAnyH_take (i := 3) (oi := _) (v := ?_) rfl (by kernel_rfl) (by kernel_rfl) (by kernel_rfl) (fun _ _ _ h => h) (Or.inl ⟨by rfl, ?_⟩) hHeld ?_
            rotate_left
            · intro w hSw
              go_simp
              all_goals (with_reducible rfl)
            try simp only [Act.put, List.setIfInBounds_toArray, List.set_cons_zero, List.set_cons_succ]
            refine wpAnyH_take (i := 4) (oi := _) (v := ?_) rfl (by kernel_rfl) (by kernel_rfl) (by kernel_rfl) (fun _ _ _ h => h) (Or.inl ⟨by rfl, ?_⟩) hHeld ?_
            rotate_left
            · intro w hSw
              go_simp
              all_goals (with_reducible rfl)
            try simp only [Act.put, List.setIfInBounds_toArray, List.set_cons_zero, List.set_cons_succ]
            refine wpAnyH_take (i := 5) (oi := _) (v := _) rfl (by kernel_rfl) (by kernel_rfl) (by kernel_rfl) (fun _ _ _ h => h) (yieldsIf_load_mid (by rfl) 24 _ rfl w4.heap.size 0 rfl (DS.map v8) _ (fun w hSw => hSw) hu rfl hi24) hHeld ?_
            try simp only [Act.put, List.setIfInBounds_toArray, List.set_cons_zero, List.set_cons_succ]
            refine wpAnyH_take (i := 7) (oi := _) (v := ?_) rfl (by kernel_rfl) (by kernel_rfl) (by kernel_rfl) (fun _ _ _ h => h) (Or.inl ⟨by rfl, ?_⟩) hHeld ?_
            rotate_left
            · intro w hSw
              go_simp
              all_goals (with_reducible rfl)
            try simp only [Act.put, List.setIfInBounds_toArray, List.set_cons_zero, List.set_cons_succ]
            refine wpAnyH_take (i := 8) (oi := _) (v := ?_) rfl (by kernel_rfl) (by kernel_rfl) (by kernel_rfl) (fun _ _ _ h => h) (Or.inl ⟨by rfl, ?_⟩) hHeld ?_
            rotate_left
            · intro w hSw
              go_simp
              all_goals (with_reducible rfl)
            try simp only [Act.put, List.setIfInBounds_toArray, List.set_cons_zero, List.set_cons_succ]
            refine wpAnyH_take (i := 9) (oi := _) (v := ?_) rfl (by kernel_rfl) (by kernel_rfl) (by kernel_rfl) (fun _ _ _ h => h) (Or.inl ⟨by rfl, ?_⟩) hHeld ?_
            rotate_left
            · intro w hSw
              go_simp
              all_goals (with_reducible rfl)
            try simp only [Act.put, List.setIfInBounds_toArray, List.set_cons_zero, List.set_cons_succ]
            refine wpAnyH_ready (rs := [6]) (by kernel_rfl) (by simp) ?_
            refine AllReadyH.cons (o := _) rfl (fun K hK => ?_) AllReadyH.nil
            go_simp
            refine hK.out _ _ (World.rangeAt_alloc r7 _) (fun hHeld => ?_)
            clear hK K
            try simp only [Act.put, List.setIfInBounds_toArray, List.set_cons_zero, List.set_cons_succ]
            refine wpAnyH_ready (rs := [10]) (by kernel_rfl) (by simp) ?_
            refine AllReadyH.cons (o := _) rfl (fun K hK => ?_) AllReadyH.nil
            refine wprP_if (by rfl) ?_
            refine wprP_append _ _ _ rfl info_byte Tryd.underlying22 w7.heap.size (.slice (some ⟨w7.heap.size, 0, none⟩) 0 0) [] rfl (Own.nil_alloc w7 _ _ rfl (Nat.le_refl _)) A c (at_ + k) PN rfl HPNL.out.symm (by rw [HPNL.out]; exact (HPRE.out.below hb7').below ((Below.refl _ _).alloc (Nat.le_refl _) _)) (by rw [HPNL.out]; simp; omega) (by simp) ?_
            intro v8_ w8 O8 G8 P8
            rw [List.nil_append] at O8
            have hb8w : Below w7.heap.size w7 w8 := ((Below.refl _ _).alloc (Nat.le_refl _) _).grown G8 (by simp) (by simp [Value.ownBlock])
            have r8 : w8.rangeAt w4.heap.size 0 (DS.map v8) := range_below r7 hb8w lt7
            have hb8' := hb7'.trans (hb8w.mono hb7'.size)
            have H8 := H7.below hb8w
            have lt8 := Nat.lt_of_lt_of_le lt7 hb8w.size
            obtain ⟨A8, n8, c8_, hn8, hv8, hC8⟩ := O8.arg_
            subst hv8
            have hle8 := (Own.c8 O8).2.1
            have HN8 := Lib.hid hn8
            have HC8 := Lib.hid hC8
            clear hn8 hC8 O8 G8 P8
            refine hK.out _ _ r8 (fun hHeld => ?_)
            clear hK K
            try simp only [Act.put, List.setIfInBounds_toArray, List.set_cons_zero, List.set_cons_succ]
            refine wpAnyH_ready (rs := [11]) (by kernel_rfl) (by simp) ?_
            refine AllReadyH.cons (o := _) rfl (fun K hK => ?_) AllReadyH.nil
            go_simp
            refine (HSUM2.out w8 A8 n8 c8_ hb8' HN8.out hle8 HC8.out).mono ?_
            rintro e w9 ⟨rfl, hb9w⟩
            have r9 : w9.rangeAt w4.heap.size 0 (DS.map v8) := range_below r8 hb9w lt8
            have hb9' := hb8'.trans (hb9w.mono hb8'.size)
            have H9 := H8.below hb9w
            refine hK.out _ _ r9 (fun hHeld => ?_)
            clear hK K
            try simp only [Act.put, List.setIfInBounds_toArray, List.set_cons_zero, List.set_cons_succ]
            refine wpAnyH_take (i := 12) (oi := _) (v := ?_) rfl (by kernel_rfl) (by kernel_rfl) (by kernel_rfl) (fun _ _ _ h => h) (Or.inl ⟨by rfl, ?_⟩) hHeld ?_
            rotate_left
            · intro w hSw
              go_simp
              all_goals (with_reducible rfl)
            try simp only [Act.put, List.setIfInBounds_toArray, List.set_cons_zero, List.set_cons_succ]
            refine wpAnyH_take (i := 13) (oi := _) (v := ?_) rfl (by kernel_rfl) (by kernel_rfl) (by kernel_rfl) (fun _ _ _ h => h) (Or.inl ⟨by rfl, ?_⟩) hHeld ?_
            rotate_left
            · intro w hSw
              go_simp
              all_goals (with_reducible rfl)
            try simp only [Act.put, List.setIfInBounds_toArray, List.set_cons_zero, List.set_cons_succ]
            refine wpAnyH_take (i := 14) (oi := _) (v := ?_) rfl (by kernel_rfl) (by kernel_rfl) (by kernel_rfl) (fun _ _ _ h => h) (Or.inl ⟨by rfl, ?_⟩) hHeld ?_
            rotate_left
            · intro w hSw
              go_simp
              all_goals (with_reducible rfl)
            try simp only [Act.put, List.setIfInBounds_toArray, List.set_cons_zero, List.set_cons_succ]
            refine wpAnyH_take (i := 15) (oi := _) (v := ?_) rfl (by kernel_rfl) (by kernel_rfl) (by kernel_rfl) (fun _ _ _ h => h) (Or.inl ⟨by rfl, ?_⟩) hHeld ?_
            rotate_left
            · intro w hSw
              go_simp
              all_goals (with_reducible rfl)
            try simp only [Act.put, List.setIfInBounds_toArray, List.set_cons_zero, List.set_cons_succ]
            refine wpAnyH_take (i := 17) (oi := _) (v := ?_) rfl (by kernel_rfl) (by kernel_rfl) (by kernel_rfl) (fun _ _ _ h => h) (Or.inl ⟨by rfl, ?_⟩) hHeld ?_
            rotate_left
            · intro w hSw
              go_simp
              all_goals (with_reducible rfl)
            try simp only [Act.put, List.setIfInBounds_toArray, List.set_cons_zero, List.set_cons_succ]
            refine wpAnyH_ready (rs := [16]) (by kernel_rfl) (by simp) ?_
            refine AllReadyH.cons (o := _) rfl (fun K hK => ?_) AllReadyH.nil
            go_simp
            refine (size_any g6 0 first PN w9 first_len HL3.out H9).mono ?_
            rintro e w10 ⟨he10, rfl⟩
            rw [HPNL.out] at he10
            subst he10
            refine hK.out _ _ r9 (fun hHeld => ?_)
            clear hK K
            try simp only [Act.put, List.setIfInBounds_toArray, List.set_cons_zero, List.set_cons_succ]
            refine wpAnyH_take (i := 18) (oi := _) (v := ?_) rfl (by kernel_rfl) (by kernel_rfl) (by kernel_rfl) (fun _ _ _ h => h) (Or.inl ⟨by rfl, ?_⟩) hHeld ?_
            rotate_left
            · intro w hSw
              go_simp
              all_goals (with_reducible rfl)
            try simp only [Act.put, List.setIfInBounds_toArray, List.set_cons_zero, List.set_cons_succ]
            refine wpAnyH_take (i := 19) (oi := _) (v := ?_) rfl (by kernel_rfl) (by kernel_rfl) (by kernel_rfl) (fun _ _ _ h => h) (Or.inl ⟨by rfl, ?_⟩) hHeld ?_
            rotate_left
            · intro w hSw
              go_simp
              all_goals (with_reducible rfl)
            try simp only [Act.put, List.setIfInBounds_toArray, List.set_cons_zero, List.set_cons_succ]
            refine wpAnyH_done (by kernel_rfl) ?_ _
            refine NoPanic.normal ?_
            rw [HPN.out] at H9
            have HH9 := Lib.hid H9
            clear H9
            go_wp2
            go_roundw
            case rel => exact ⟨g6, at_ + k, i + 1, rfl, hgb, by go_num, hk, by go_num, by omega, HH9.out, hb9'⟩
            case measure => simp [intOf]; omega
    · have t0 : ¬ ((i : Int) < (cn : Int)) := by omega
      have a0 : (0 : Int) ≤ (at_ : Int) := by omega
      have a1 : (at_ : Int) ≤ (n : Int) := by omega
      have hgl := H.lt
      have hall : All 256 (p.take at_) := fun x hx => HPA.out x (List.mem_of_mem_take hx)
      have hC2 := HC.out.below hb
      rw [← HN.out] at hC2
      have hmid := hC2.midA (c := c) at_ n hat (Nat.le_refl n) hc
      obtain ⟨Q, hQ⟩ : ∃ Q, Q = (p.take n).drop at_ := ⟨_, rfl⟩
      rw [← hQ] at hmid
      have hQl : n - at_ = Q.length := hmid.len.symm
      have hQa : All 256 Q := by rw [hQ]; exact fun x hx => HPA.out x (List.mem_of_mem_take (List.mem_of_mem_drop hx))
      have hnext : p.take at_ ++ Q = p := by
        rw [hQ, HN.out, List.take_length, List.take_append_drop]
      have htl : (p.take at_).length = at_ := by rw [List.length_take, ← HN.out]; omega
      obtain ⟨PT, hPT⟩ : ∃ X, X = p.take at_ := ⟨_, rfl⟩
      rw [← hPT] at H hall htl hnext
      obtain ⟨DS, hDS⟩ : ∃ X, X = sumOf p := ⟨_, rfl⟩
      have hDSl : DS.length = 32 := by rw [hDS]; exact sumOf_len _
      have heq : ∀ V : World, (binOp .eql 24 (.agg (DS.map v8).toArray) (.agg (DS.map v8).toArray)).run Tryd.prog V = .ok (.bool true) V := fun V => by
        have h := run_eql24 DS DS hDSl hDSl V
        rwa [decide_eq_true rfl] at h
      have hsum : ∀ V : World, HashAt V g first 0 p → Tab1 V → 1 < V.heap.size → Calls Tryd.prog 19 #[.pointer (some ⟨g, 0, none⟩)] V fun e w' => e = .returned (.agg (DS.map v8).toArray) ∧ Below V.heap.size V w' := fun V h1 h2 h3 => by
        rw [hDS]; exact hsum_any g 0 first p V first_len first_all (Nat.zero_mod 64) (by rw [← HN.out]; omega) h1 HPA.out h2 h3
      have hsum2 : ∀ (V : World) (A' : Option Addr) (n' c' : Nat), Below w.heap.size w V → n' = p.length → n' ≤ c' → C8 V A' p.length p → Calls Tryd.prog 14 #[.slice A' n' c'] V fun e w' => e = .returned (.agg (DS.map v8).toArray) ∧ Below V.heap.size V w' := fun V A' n' c' h0 h1 h2 h3 => by
        rw [hDS]; subst h1; exact sum_any p A' c' V (by rw [← HN.out]; omega) h2 HPA.out h3 (HT.out.below h0).1 (HT.out.below h0).2.1 (HT.out.below h0).2.2
      have hlive : ∀ (V : World), Below w.heap.size w V → Calls Tryd.prog 15 #[] V fun e w' => e = .returned (.bool true) ∧ Below V.heap.size V w' := fun V h => live_any V (HT.out.below h).1 (HT.out.below h).2.1 (HT.out.below h).2.2
      have hsize : ∀ V : World, HashAt V g first 0 p → Calls Tryd.prog 20 #[.pointer (some ⟨g, 0, none⟩)] V fun e w' => e = .returned (.int .i64 (n : Int)) ∧ V = w' := fun V h => by
        have h2 := size_any g 0 first p V first_len (by rw [← HN.out]; omega) h
        rwa [Nat.zero_add, ← HN.out] at h2
      have hlen2 : 0 + PT.length + Q.length ≤ 2305843009213693952 := by rw [htl, ← hQl]; omega
      have HHH := Lib.hid H; have HQL := Lib.hid hQl; have HQA := Lib.hid hQa; have HNX := Lib.hid hnext; have HMID := Lib.hid hmid; have HSUM := Lib.hid hsum; have HSUM2 := Lib.hid hsum2; have HLIVE := Lib.hid hlive; have HSIZE := Lib.hid hsize; have HL2 := Lib.hid hlen2
      clear H hC2 hmid hQ hQl hQa hnext htl hPT hDS hDSl hsum hsum2 hlive hsize hlen2
      go_wp2_with (first
        | (at_builtin; refine wpl_append rfl _ _ _ rfl info_byte Tryd.underlying22 wr.heap.size (.slice (some ⟨wr.heap.size, 0, none⟩) 0 0) [] rfl (Own.nil_alloc wr _ _ rfl (Nat.le_refl _)) _ _ (n - at_) Q rfl HQL.out
              (by rw [← HQL.out]; exact HMID.out.below ((Below.refl _ _).alloc (Nat.le_refl _) _)) (by rw [← HQL.out]; simp; omega) (by simp) ?_
           intro v2 w2 O2 G2 P2
           rw [List.nil_append] at O2
           have hb2 : Below wr.heap.size wr w2 := ((Below.refl _ _).alloc (Nat.le_refl _) _).grown G2 (by simp) (by simp [Value.ownBlock])
           have hb2' := hb.trans (hb2.mono hs)
           have H2 := HHH.out.below hb2
           obtain ⟨A2, n2, c2, hn2, hv2, hC2⟩ := O2.arg_
           subst hv2
           have hle2 := (Own.c8 O2).2.1
           have hne2 : 0 < Q.length → ∀ b' o', A2 = some ⟨b', o', none⟩ → b' ≠ g := fun _ b' o' e => by
             subst e
             have := (O2.lt b' rfl).1
             omega
           have HN2 := Lib.hid hn2; have HC2 := Lib.hid hC2; have HNE2 := Lib.hid hne2
           have hg1 : 1 ≠ g := by have := HT.out.2.2; omega
           have t2a := (HT.out.below hb2').1
           have t2b := (HT.out.below hb2').2.2
           clear G2 P2 O2 hn2 hC2 hne2 hb2)
        | (go_at_call 18; (with_reducible refine (write_c g 0 first PT Q A2 n2 c2 _ first_len first_all (Nat.zero_mod 64) HL2.out H2 hall HN2.out hle2 HQA.out HC2.out HNE2.out t2a t2b hg1).mono ?_); rintro e w3 ⟨rfl, H3, G3⟩
           rw [HNX.out] at H3
           have hb3 := hb2'.grown G3 hb2'.size (fun k hk => by injection hk; omega)
           clear G3 H2 t2a t2b)
        | (go_at_call 15; (with_reducible refine (HLIVE.out _ hb3).mono ?_); rintro e w4 ⟨rfl, hb4⟩
           have hb4' := hb3.trans (hb4.mono hb3.size)
           have H4 := H3.below hb4
           have t4a := (HT.out.below hb4').1
           have t4b := (HT.out.below hb4').2.2
           clear hb4 H3)
        | (go_at_call 19; (with_reducible refine (HSUM.out _ H4 t4a t4b).mono ?_); rintro e w5 ⟨rfl, hb5⟩
           have hb5' := hb4'.trans (hb5.mono hb4'.size)
           have H5 := H4.below hb5
           have hs5 := hb5'.size
           clear hb5 H4)
        | (at_builtin; refine wplw_append (by first | rfl | simp [Region.wanted, yielded]) _ _ _ rfl info_byte Tryd.underlying22 w5.heap.size (.slice (some ⟨w5.heap.size, 0, none⟩) 0 0) [] rfl (Own.nil_alloc w5 _ _ rfl (Nat.le_refl _)) A c n p rfl HN.out
              (HC.out.below (hb5'.alloc hs5 _)) (by rw [← HN.out]; simp; omega) (by simp) ?_
           intro v6 w6 O6 G6 P6
           rw [List.nil_append] at O6
           have hb6 : Below w5.heap.size w5 w6 := ((Below.refl _ _).alloc (Nat.le_refl _) _).grown G6 (by simp) (by simp [Value.ownBlock])
           have hb6' := hb5'.trans (hb6.mono hs5)
           have H6 := H5.below hb6
           obtain ⟨A6, n6, c6, hn6, hv6, hC6⟩ := O6.arg_
           subst hv6
           have hle6 := (Own.c8 O6).2.1
           have HN6 := Lib.hid hn6; have HC6 := Lib.hid hC6
           clear G6 P6 O6 hn6 hC6 hb6 H5)
        | (go_at_call 14; (with_reducible refine (HSUM2.out _ _ _ _ hb6' HN6.out hle6 HC6.out).mono ?_); rintro e w7 ⟨rfl, hb7⟩
           have hb7' := hb6'.trans (hb7.mono hb6'.size)
           have H7 := H6.below hb7
           clear hb7 H6)
        | (go_at_call 20; (with_reducible refine (HSIZE.out _ H7).mono ?_); rintro e w8 ⟨rfl, rfl⟩))
      all_goals
        go_ret
        exact ⟨rfl, hb7'⟩
theorem row_pieces (a0 : List Int) (a1 : List Int) (o0 : a0.length * 1 ≤ 140737488351232 ∧ ∀ y, y ∈ a0 → (Lit.int .u8 y).wf = true) (o1 : a1.length * 8 ≤ 140737488351232 ∧ ∀ y, y ∈ a1 → (Lit.int .i64 y).wf = true) (W : World) (A0 : Option Addr) (c0 : Nat) (A1 : Option Addr) (c1 : Nat)
    (hr0 : Kd.C (Kd.int .u8) W A0 a0.length a0) (hc0 : a0.length ≤ c0) (hr1 : Kd.C (Kd.int .i64) W A1 a1.length a1) (hc1 : a1.length ≤ c1) (hT : TabsP W) :
    Calls Tryd.prog 12 #[.slice A0 a0.length c0, .slice A1 a1.length c1] W fun e w' => e = .returned (.bool true) ∧ Below W.heap.size W w' := by
  obtain ⟨h1, h2⟩ := bytes_of_ok o0.2
  have hl := toN_len a0
  have hz : ∀ (i : Nat) (z : Int), a1[i]? = some z → -9223372036854775808 ≤ z ∧ z ≤ 9223372036854775807 ∧ ∃ adc, A1 = some adc ∧ W.cell? (adc.add i) = some (.int .i64 z) := fun i z hi => by
    have hlt := (List.getElem?_eq_some_iff.1 hi).1
    have hr := Kd.reads_of_C (enc := Value.int .i64) (d := (0 : Int)) (h1 := fun _ => rfl) hr1
    obtain ⟨ad, e, hc⟩ := hr.2.2 (by omega)
    have h := hc i hlt
    rw [List.getD_eq_getElem?_getD, hi] at h
    have hw := o1.2 z (List.mem_of_getElem? hi)
    simp [Lit.wf, IntKind.min, IntKind.max, IntKind.bits, IntKind.signed] at hw
    exact ⟨by omega, by omega, ad, e, h⟩
  exact law_pieces (toN a0) a1 A0 a0.length c0 A1 a1.length c1 W hl.symm (by have := o0.1; omega) hc0 h2 (by show Kd.C _ _ _ _ _; rw [h1, hl]; exact hr0) rfl (by have := o1.1; omega) hz hT
end Go.Proofs.YtfedlgcpgfofjaaDoor.Sha
