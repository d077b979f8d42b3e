/-
  Handle, Match, by the program and by the reference; CodesHandles: what the calls do, walked; as the row hands it on.
-/
import Derived.Test.YtaeipffenlkjpaaDoorHLive
import Derived.Lib.AppendStr
import Derived.Lib.ConvBytes
namespace Go.Proofs.YtaeipffenlkjpaaDoor.Sha
open Go.RowKit Go.Proofs.YtaeipffenlkjpaaDoorW.PrintWords Go.Proofs.YtaeipffenlkjpaaDoor.PAll Go.Proofs.YtaeipffenlkjpaaDoor.Plain Go.Proofs.YtaeipffenlkjpaaDoor.Cod
set_option linter.unusedVariables false
set_option linter.unusedSimpArgs false
theorem strCells_sN (S : ByteArray) : Lib.strCells S = (sN S).map v8 := by
  unfold Lib.strCells sN v8
  rw [List.map_map]
  rfl
theorem sN_bytes (s : ByteArray) : All 256 (sN s) := fun x hx => by
  obtain ⟨b, _, rfl⟩ := List.mem_map.1 hx
  exact UInt8.toNat_lt b
theorem sumOf_bytes (p : List Nat) : All 256 (sumOf p) := bytesR_all _
section
variable {P : Program} {w : World} {ops : Array Oper} {rest : List Oper} {o : Oper} {a : Act} {Q : Exit → Act → World → Prop}
theorem wpl_append_str (hgd : o.guard = none) (s x : Operand) (t u : TypeId) (ho : o.op = .call { callee := .builtin .append, args := #[s, x], argTypes := #[t, u] })
    (hinfo : (P.info? 5).map (fun i => (i.zero, i.size, i.bytes)) = some (some (.int .u8 0), 1, 1)) (ht : P.underlying t = some (.slice 5)) (hu : P.underlying u = some .string) (base : Nat)
    (v : Value) (p : List Nat) (hs : a.eval s = v) (hown : Own w base v p) (S : ByteArray) (hx : a.eval x = .string S)
    (hbytes : p.length + S.size ≤ 140737488355328) (hbase : base ≤ w.heap.size)
    (h : ∀ v' w', Own w' base v' (p ++ sN S) → w.grownBy w' v.ownBlock → wpList P ops Q rest (a.put o.dst v') w') : wpList P ops Q (o :: rest) a w :=
  wpList_plain hgd fun _ hK => by
    obtain ⟨i, hi, hz0, hz1, hz2⟩ := info_parts hinfo
    obtain ⟨v', w', hrun, h2, h3, _⟩ := Lib.run_append_own_string (P := P) w base t u o.type 5 i ht hu hi hz0 hz1 hz2 v p.length (p.map v8) hown S (by unfold maxLen; omega) hbytes hbase
    unfold Oper.wp execOp
    simp only [ho, resolve, invoke, builtin, Sem.run_bind, Sem.run_pure, Result.andThen_ok, List.map_toArray, List.map_cons, List.map_nil, hs, hx, hrun]
    exact hK _ _ (h v' w' (by unfold Own; rw [List.length_append, List.map_append, sN_len, ← strCells_sN]; exact h2) h3)
end
/-- The bytes of a string, laid anew. -/
theorem bytes_of (S : ByteArray) (hS : S.size ≤ 9223372036854775807) (w : World) : ∃ c w', (convert 9 32 (.string S)).run Tryd.prog w = .ok (.slice (some ⟨w.heap.size, 0, none⟩) S.size c) w' ∧ S.size ≤ c ∧ C8 w' (some ⟨w.heap.size, 0, none⟩) S.size (sN S) ∧ Below w.heap.size w w' := by
  refine ⟨_, _, Lib.run_convert_string_bytes w 9 32 5 S Tryd.underlying9 Tryd.underlying32 Tryd.underlying5, ?_, ?_, ?_⟩
  · exact grownCap_ge w S.size 0 5
  · have h := C8.of_Bs (w := Lib.bytesWorld w 5 S) (b := w.heap.size) (o := 0) (p := sN S) (fun j hj => by
      rw [sN_len] at hj
      rw [Nat.zero_add, Lib.bytesWorld_cell w 5 S j hj]
      unfold sN v8
      rw [List.getD_eq_getElem?_getD, List.getD_eq_getElem?_getD, List.getElem?_map, List.getElem?_eq_getElem (by simpa using hj)]
      rfl) (by rw [sN_len]; exact hS)
    rwa [sN_len] at h
  · exact ⟨rfl, rfl, rfl, by rw [Lib.bytesWorld_size]; omega, fun k hk => Lib.bytesWorld_at_old w 5 S k hk⟩
/-- What Handle answers. -/
def hnd (kind : Int) (s : ByteArray) : ByteArray × Nat := if kind = 1 ∨ kind = 2 then (if 64 < s.size then (⟨#[]⟩, 1) else (txt (sumOf (kind.toNat :: sN s)), 0)) else (⟨#[]⟩, 2)
theorem handle_kind (kind : Int) (s : ByteArray) (w : World) (hk : ¬ (kind = 1 ∨ kind = 2)) : Calls Tryd.prog 4 #[.int .i64 kind, .string s] w fun e w' => e = .returned (.tuple #[.string ⟨#[]⟩, .int .i64 2]) ∧ w = w' := by
  have k1 : (kind != 1) = true := by rw [bne_iff_ne]; exact fun h => hk (.inl h)
  have k2 : (kind != 2) = true := by rw [bne_iff_ne]; exact fun h => hk (.inr h)
  clear hk
  go_enter Tryd.func4, Tryd.ntmps4
  go_wp2
  go_ret2
  exact ⟨rfl, rfl⟩
theorem rhandle_kind (kind : Int) (s : ByteArray) (w : World) (hk : ¬ (kind = 1 ∨ kind = 2)) : Calls Tryd.prog 5 #[.int .i64 kind, .string s] w fun e w' => e = .returned (.tuple #[.string ⟨#[]⟩, .int .i64 2]) ∧ w = w' := by
  have k1 : (kind != 1) = true := by rw [bne_iff_ne]; exact fun h => hk (.inl h)
  have k2 : (kind != 2) = true := by rw [bne_iff_ne]; exact fun h => hk (.inr h)
  clear hk
  go_enter Tryd.func5, Tryd.ntmps5
  go_wp2
  go_ret2
  exact ⟨rfl, rfl⟩
theorem handle_long (k : Nat) (s : ByteArray) (w : World) (hk : k = 1 ∨ k = 2) (hs : 64 < s.size) : Calls Tryd.prog 4 #[.int .i64 (k : Int), .string s] w fun e w' => e = .returned (.tuple #[.string ⟨#[]⟩, .int .i64 1]) ∧ w = w' := by
  have i0 : (64 : Int) < (s.size : Int) := by omega
  rcases hk with rfl | rfl
  all_goals
    go_enter Tryd.func4, Tryd.ntmps4
    go_wp2
    go_ret2
    exact ⟨rfl, rfl⟩
theorem rhandle_long (k : Nat) (s : ByteArray) (w : World) (hk : k = 1 ∨ k = 2) (hs : 64 < s.size) : Calls Tryd.prog 5 #[.int .i64 (k : Int), .string s] w fun e w' => e = .returned (.tuple #[.string ⟨#[]⟩, .int .i64 1]) ∧ w = w' := by
  have i0 : (64 : Int) < (s.size : Int) := by omega
  rcases hk with rfl | rfl
  all_goals
    go_enter Tryd.func5, Tryd.ntmps5
    go_wp2
    go_ret2
    exact ⟨rfl, rfl⟩
set_option maxRecDepth 100000 in
set_option maxHeartbeats 1000000 in
theorem handle_ok (k : Nat) (s : ByteArray) (w : World) (hk : k = 1 ∨ k = 2) (hs : s.size ≤ 64) (hT : Tabs w) :
    Calls Tryd.prog 4 #[.int .i64 (k : Int), .string s] w fun e w' => e = .returned (.tuple #[.string (txt (sumOf (k :: sN s))), .int .i64 0]) ∧ Below w.heap.size w w' := by
  have hk2 : k < 256 := by omega
  have hlen : (k :: sN s).length = s.size + 1 := by rw [List.length_cons, sN_len]
  have hall : All 256 (k :: sN s) := All.app (All.one hk2) (sN_bytes s)
  obtain ⟨D, hD⟩ : ∃ D, D = sumOf (k :: sN s) := ⟨_, rfl⟩
  have hDl : D.length = 32 := by rw [hD]; exact sumOf_len _
  rw [← hD]
  have hsum : ∀ (V : World) (A : Option Addr) (c : Nat), Below w.heap.size w V → C8 V A (s.size + 1) (k :: sN s) → s.size + 1 ≤ c → Calls Tryd.prog 10 #[.slice A (s.size + 1) c] V fun e w' => e = .returned (.agg (D.map v8).toArray) ∧ Below V.heap.size V w' := fun V A c hb hC hc => by
    have h2 := sum_any (k :: sN s) A c V (by omega) (by omega) hall (by rw [hlen]; exact hC) (hT.below hb).1 (hT.below hb).2.2.1 (by have := (hT.below hb).2.2.2; omega)
    rw [hlen, ← hD] at h2
    exact h2
  have HS := Lib.hid hsum; have HD := Lib.hid hDl; have HLEN := Lib.hid hlen
  have i0 : s.size ≤ 64 := hs
  clear hsum hD hDl hlen hall hs hT
  rcases hk with rfl | rfl
  all_goals
    go_enter Tryd.func4, Tryd.ntmps4
    go_wp2_with (first
      | (at_builtin; go_loud (refine wpl_append_str rfl _ _ _ _ rfl info_byte Tryd.underlying32 Tryd.underlying9 w.heap.size (.slice (some ⟨w.heap.size, 0, none⟩) 1 1) [_] rfl (Own.of_Blk (Blk.new w 5 (c8 [_])) (Nat.le_refl _) (by simp)) s rfl (by simp; omega) (by simp) ?_); intro v1 w1 O1 G1
         have hb1 : Below w.heap.size w w1 := Below.grown ((Below.refl _ _).alloc (Nat.le_refl _) _) G1 (by simp) (fun k e => by have e' : some w.heap.size = some k := e; injection e' with e'; omega)
         obtain ⟨A1, c1, e1, hc1, hC1⟩ := O1.arg
         rw [List.singleton_append, HLEN.out] at e1 hc1 hC1
         subst e1
         clear O1 G1)
      | (go_at_call 10; (with_reducible refine (HS.out _ _ _ hb1 hC1 hc1).mono ?_); rintro e w2 ⟨rfl, hb2⟩
         have hb2' := hb1.trans (hb2.mono hb1.size)
         clear hb2)
      | (refine wpl_store rfl 30 _ _ rfl w2.heap.size 0 rfl 30 [] ((List.replicate 32 0).map v8) [] (D.map v8) rfl (by rw [List.nil_append, List.append_nil]; exact Blk.new w2 30 (c8 (List.replicate 32 0))) rfl (by rw [List.length_map, HD.out]; rfl) (by rw [List.length_map, HD.out]; kernel_rfl) (v8_one D) ?_; intro w3 B3 O3
         have hcv := conv_C8 (c := 32) (C8.of_Blk B3 32 HD.out.symm (by decide))
         have hb3 : Below w.heap.size w w3 := O3.below (hb2'.alloc hb2'.size _) hb2'.size))
    go_ret2
    exact ⟨rfl, hb3⟩
set_option maxRecDepth 100000 in
set_option maxHeartbeats 2000000 in
theorem rhandle_ok (k : Nat) (s : ByteArray) (w : World) (hk : k = 1 ∨ k = 2) (hs : s.size ≤ 64) (hT : Tabs w) :
    Calls Tryd.prog 5 #[.int .i64 (k : Int), .string s] w fun e w' => e = .returned (.tuple #[.string (txt (sumOf (k :: sN s))), .int .i64 0]) ∧ Below w.heap.size w w' := by
  have hk2 : k < 256 := by omega
  have hlen : (k :: sN s).length = s.size + 1 := by rw [List.length_cons, sN_len]
  have hall : All 256 (k :: sN s) := All.app (All.one hk2) (sN_bytes s)
  obtain ⟨D, hD⟩ : ∃ D, D = sumOf (k :: sN s) := ⟨_, rfl⟩
  have hDl : D.length = 32 := by rw [hD]; exact sumOf_len _
  rw [← hD]
  have hsum : ∀ (V : World) (A : Option Addr) (c : Nat), Below w.heap.size w V → C8 V A (s.size + 1) (k :: sN s) → s.size + 1 ≤ c → Calls Tryd.prog 11 #[.slice A (s.size + 1) c] V fun e w' => e = .returned (.agg (D.map v8).toArray) ∧ Below V.heap.size V w' := fun V A c hb hC hc => by
    have h2 := rsum_any (k :: sN s) A c V (by omega) hall (by rw [hlen]; exact hC) (hT.below hb).2.1 (hT.below hb).2.2.2
    rw [hlen, ← hD] at h2
    exact h2
  have HS := Lib.hid hsum; have HD := Lib.hid hDl; have HLEN := Lib.hid hlen
  have i0 : s.size ≤ 64 := hs
  clear hsum hD hDl hlen hall hs hT
  rcases hk with rfl | rfl
  all_goals
    go_enter Tryd.func5, Tryd.ntmps5
    go_wp2_with (first
      | (at_builtin; go_loud (refine wpl_append_str rfl _ _ _ _ rfl info_byte Tryd.underlying32 Tryd.underlying9 w.heap.size (.slice (some ⟨w.heap.size, 0, none⟩) 1 1) [_] rfl (Own.of_Blk (Blk.new w 5 (c8 [_])) (Nat.le_refl _) (by simp)) s rfl (by simp; omega) (by simp) ?_); intro v1 w1 O1 G1
         have hb1 : Below w.heap.size w w1 := Below.grown ((Below.refl _ _).alloc (Nat.le_refl _) _) G1 (by simp) (fun k e => by have e' : some w.heap.size = some k := e; injection e' with e'; omega)
         obtain ⟨A1, c1, e1, hc1, hC1⟩ := O1.arg
         rw [List.singleton_append, HLEN.out] at e1 hc1 hC1
         subst e1
         clear O1 G1)
      | (go_at_call 11; (with_reducible refine (HS.out _ _ _ hb1 hC1 hc1).mono ?_); rintro e w2 ⟨rfl, hb2⟩
         have hb2' := hb1.trans (hb2.mono hb1.size)
         clear hb2)
      | (refine wpl_store rfl 30 _ _ rfl w2.heap.size 0 rfl 30 [] ((List.replicate 32 0).map v8) [] (D.map v8) rfl (by rw [List.nil_append, List.append_nil]; exact Blk.new w2 30 (c8 (List.replicate 32 0))) rfl (by rw [List.length_map, HD.out]; rfl) (by rw [List.length_map, HD.out]; kernel_rfl) (v8_one D) ?_; intro w3 B3 O3
         have hb3 : Below w.heap.size w w3 := O3.below (hb2'.alloc hb2'.size _) hb2'.size))
    have B3' : Blk w3 w2.heap.size 30 (c8 D) := by rw [List.nil_append, List.append_nil] at B3; exact B3
    have h2s := hb2'.size
    have H3 := Lib.hid hb3; have HB3 := Lib.hid B3'
    clear hb3 B3 B3' O3 hb2'
    go_loopw [8, 9] (fun v8 v9 wr => ∃ i : Nat, i ≤ 32 ∧ v9 = .int .i64 (i : Int) ∧ Own wr w.heap.size v8 (D.take i) ∧ Blk wr w2.heap.size 30 (c8 D) ∧ Below w.heap.size w wr) (fun _ v9 _ => 32 - (intOf v9).toNat)
    case atStart => exact ⟨0, by omega, rfl, by rw [List.take_zero]; exact Own.nil _ _, HB3.out, H3.out⟩
    case round =>
      obtain ⟨i, hi, rfl, O, B, hb⟩ := hrel
      by_cases hlt : i < 32
      · obtain ⟨y, hy⟩ : ∃ y, y = D.getD i 0 := ⟨_, rfl⟩
        have gy : wr.cell? ⟨w2.heap.size, i, none⟩ = some (.int .u8 (y : Int)) := by rw [B.w8 i (by rw [HD.out]; exact hlt), hy]
        have hnext : D.take (i + 1) = D.take i ++ [y] := by
          rw [List.take_succ_eq_append_getElem (by rw [HD.out]; exact hlt), hy, List.getD_eq_getElem?_getD, List.getElem?_eq_getElem (by rw [HD.out]; exact hlt)]
          rfl
        have hl : (D.take i).length ≤ 32 := by rw [List.length_take]; omega
        have HO := Lib.hid O; have HB := Lib.hid B; have HX := Lib.hid hnext; have HH := Lib.hid hb
        have k0 : (i : Int) < 32 := by omega
        have k1 : (0 : Int) ≤ (i : Int) := by omega
        clear O B hnext hb hy
        go_wp2_with (at_builtin; go_loud (refine wpl_append rfl _ _ _ rfl info_byte Tryd.underlying32 w.heap.size _ (D.take i) rfl (HO.out.alloc _) _ _ _ [y] rfl rfl (C8.one_ _ _ _ rfl _ rfl) (by rw [List.length_singleton]; omega) (by have := HH.out.size; simp; omega) ?_); intro v' w4 O4 G4 _)
        go_roundw
        case rel =>
          refine ⟨i + 1, by omega, by go_num, by rw [HX.out]; exact O4, (HB.out.alloc _).grown G4 (Own.ne (HO.out.alloc (.cells #[.int .u8 (y : Int)] 5)) (HB.out.alloc _) (by decide)), Below.grown (HH.out.alloc HH.out.size _) G4 (by have := HH.out.size; simp; omega) (fun q hq => (HO.out.lt q hq).1)⟩
        case measure => simp [intOf]; omega
      · have e : D.take i = D := List.take_of_length_le (by rw [HD.out]; omega)
        rw [e] at O
        obtain ⟨Av, cv, hve, hcv, hCv⟩ := O.arg
        have hcc := conv_C8 (c := cv) hCv
        have k0 : ¬ (i : Int) < 32 := by omega
        rw [HD.out] at hve hcc
        clear e O B hcv hCv
        subst hve
        go_wp2
        go_ret2
        exact ⟨rfl, hb⟩
theorem handle_any (kind : Int) (s : ByteArray) (w : World) (hT : Tabs w) : Calls Tryd.prog 4 #[.int .i64 kind, .string s] w fun e w' => e = .returned (.tuple #[.string (hnd kind s).1, .int .i64 ((hnd kind s).2 : Nat)]) ∧ Below w.heap.size w w' := by
  unfold hnd
  by_cases hk : kind = 1 ∨ kind = 2
  · rw [if_pos hk]
    obtain ⟨k, rfl, hk'⟩ : ∃ k : Nat, kind = (k : Int) ∧ (k = 1 ∨ k = 2) := by
      rcases hk with rfl | rfl
      · exact ⟨1, rfl, .inl rfl⟩
      · exact ⟨2, rfl, .inr rfl⟩
    by_cases hs : 64 < s.size
    · rw [if_pos hs]
      exact (handle_long k s w hk' hs).mono fun e w' ⟨h, hw⟩ => ⟨h, hw ▸ Below.refl _ _⟩
    · rw [if_neg hs, Int.toNat_natCast]
      exact handle_ok k s w hk' (by omega) hT
  · rw [if_neg hk]
    exact (handle_kind kind s w hk).mono fun e w' ⟨h, hw⟩ => ⟨h, hw ▸ Below.refl _ _⟩
theorem rhandle_any (kind : Int) (s : ByteArray) (w : World) (hT : Tabs w) : Calls Tryd.prog 5 #[.int .i64 kind, .string s] w fun e w' => e = .returned (.tuple #[.string (hnd kind s).1, .int .i64 ((hnd kind s).2 : Nat)]) ∧ Below w.heap.size w w' := by
  unfold hnd
  by_cases hk : kind = 1 ∨ kind = 2
  · rw [if_pos hk]
    obtain ⟨k, rfl, hk'⟩ : ∃ k : Nat, kind = (k : Int) ∧ (k = 1 ∨ k = 2) := by
      rcases hk with rfl | rfl
      · exact ⟨1, rfl, .inl rfl⟩
      · exact ⟨2, rfl, .inr rfl⟩
    by_cases hs : 64 < s.size
    · rw [if_pos hs]
      exact (rhandle_long k s w hk' hs).mono fun e w' ⟨h, hw⟩ => ⟨h, hw ▸ Below.refl _ _⟩
    · rw [if_neg hs, Int.toNat_natCast]
      exact rhandle_ok k s w hk' (by omega) hT
  · rw [if_neg hk]
    exact (rhandle_kind kind s w hk).mono fun e w' ⟨h, hw⟩ => ⟨h, hw ▸ Below.refl _ _⟩
theorem hnd_size (kind : Int) (s : ByteArray) : (hnd kind s).1.size ≤ 32 := by
  unfold hnd
  split
  · split
    · exact Nat.zero_le _
    · rw [txt_size, sumOf_len]; omega
  · exact Nat.zero_le _
theorem str_eq (a b : ByteArray) : decide (sN a = sN b) = (a.toList == b.toList) := by
  rw [toList_beq, decide_eq_decide]
  exact ⟨txt_inj, fun h => by rw [h]⟩
set_option maxRecDepth 100000 in
set_option maxHeartbeats 1000000 in
theorem match_any (kind : Int) (s t : ByteArray) (w : World) (ht : t.size ≤ 9223372036854775807) (hT : Tabs w) :
    Calls Tryd.prog 7 #[.int .i64 kind, .string s, .string t] w fun e w' => e = .returned (.bool (decide ((hnd kind s).2 = 0) && ((hnd kind s).1.toList == t.toList))) ∧ Below w.heap.size w w' := by
  have h1 := handle_any kind s w hT
  have hz := hnd_size kind s
  obtain ⟨H, hH⟩ : ∃ H, H = (hnd kind s).1 := ⟨_, rfl⟩
  obtain ⟨E, hE⟩ : ∃ E, E = (hnd kind s).2 := ⟨_, rfl⟩
  rw [← hH, ← hE] at h1 ⊢
  rw [← hH] at hz
  have H1 := Lib.hid h1
  clear h1 hH hE hT
  by_cases h0 : E = 0
  · have e0 : ((E : Int) == 0) = true := by rw [h0]; rfl
    have HE := Lib.hid h0
    rw [← str_eq]
    obtain ⟨r, hr⟩ : ∃ r, r = decide (sN H = sN t) := ⟨_, rfl⟩
    rw [← hr]
    have hsame : ∀ (V : World) (A B : Option Addr) (c d : Nat), H.size ≤ c → t.size ≤ d → C8 V A H.size (sN H) → C8 V B t.size (sN t) → Calls Tryd.prog 12 #[.slice A H.size c, .slice B t.size d] V fun e w' => e = .returned (.bool r) ∧ Below V.heap.size V w' := fun V A B c d hc hd hA hB => by
      rw [hr]
      exact Same_any (sN H) (sN t) A B H.size t.size c d V (sN_len H).symm (sN_len t).symm (by omega) hc hd (sN_bytes H) (sN_bytes t) (by rw [sN_len]; exact hA) (by rw [sN_len]; exact hB)
    have HS := Lib.hid hsame
    clear hsame hr h0
    go_enter Tryd.func7, Tryd.ntmps7
    go_wp2_with (first
      | (go_at_call 4; (with_reducible refine H1.out.mono ?_); rintro e w1 ⟨rfl, hb1⟩
         obtain ⟨cH, w2, hcv1, hcH, hC2, hb2⟩ := bytes_of H (by omega) w1
         obtain ⟨cT, w3, hcv2, hcT, hC3, hb3⟩ := bytes_of t ht w2
         have hC2' := hC2.below hb3
         have hb3' := hb1.trans ((hb2.trans (hb3.mono hb2.size)).mono hb1.size)
         have HC2 := Lib.hid hC2'; have HC3 := Lib.hid hC3; have HB3 := Lib.hid hb3'
         clear hC2 hC2' hC3 hb2 hb3 hb1 hb3')
      | (go_at_call 12; (with_reducible refine (HS.out _ _ _ _ _ hcH hcT HC2.out HC3.out).mono ?_); rintro e w4 ⟨rfl, hb4⟩))
    go_ret
    refine ⟨?_, HB3.out.trans (hb4.mono HB3.out.size)⟩
    rw [HE.out]
    cases r <;> rfl
  · have e0 : ((E : Int) == 0) = false := by
      rw [Bool.eq_false_iff]
      intro h
      have := eq_of_beq h
      omega
    have HE := Lib.hid h0
    clear h0
    go_enter Tryd.func7, Tryd.ntmps7
    go_wp2_with (go_at_call 4; (with_reducible refine H1.out.mono ?_); rintro e w1 ⟨rfl, hb1⟩)
    go_ret
    refine ⟨?_, hb1⟩
    rw [decide_eq_false HE.out]
    rfl
set_option maxRecDepth 100000 in
set_option maxHeartbeats 1000000 in
theorem rmatch_any (kind : Int) (s t : ByteArray) (w : World) (hT : Tabs w) :
    Calls Tryd.prog 8 #[.int .i64 kind, .string s, .string t] w fun e w' => e = .returned (.bool (decide ((hnd kind s).2 = 0) && ((hnd kind s).1.toList == t.toList))) ∧ Below w.heap.size w w' := by
  have h1 := rhandle_any kind s w hT
  obtain ⟨H, hH⟩ : ∃ H, H = (hnd kind s).1 := ⟨_, rfl⟩
  obtain ⟨E, hE⟩ : ∃ E, E = (hnd kind s).2 := ⟨_, rfl⟩
  rw [← hH, ← hE] at h1 ⊢
  have H1 := Lib.hid h1
  clear h1 hH hE hT
  by_cases h0 : E = 0
  · have e0 : ((E : Int) == 0) = true := by rw [h0]; rfl
    have HE := Lib.hid h0
    clear h0
    go_enter Tryd.func8, Tryd.ntmps8
    go_wp2_with (go_at_call 5; (with_reducible refine H1.out.mono ?_); rintro e w1 ⟨rfl, hb1⟩)
    go_ret
    refine ⟨?_, hb1⟩
    rw [HE.out]
    cases H.toList == t.toList <;> rfl
  · have e0 : ((E : Int) == 0) = false := by
      rw [Bool.eq_false_iff]
      intro h
      have := eq_of_beq h
      omega
    have HE := Lib.hid h0
    clear h0
    go_enter Tryd.func8, Tryd.ntmps8
    go_wp2_with (go_at_call 5; (with_reducible refine H1.out.mono ?_); rintro e w1 ⟨rfl, hb1⟩)
    go_ret
    refine ⟨?_, hb1⟩
    rw [decide_eq_false HE.out]
    rfl
set_option maxRecDepth 100000 in
set_option maxHeartbeats 1000000 in
theorem handles_law (kind : Int) (s t : ByteArray) (w : World) (ht : t.size ≤ 9223372036854775807) (hT : Tabs w) :
    Calls Tryd.prog 3 #[.int .i64 kind, .string s, .string t] w fun e w' => e = .returned (.bool true) ∧ Below w.heap.size w w' := by
  have h1 := fun (V : World) (hb : Below w.heap.size w V) => handle_any kind s V (hT.below hb)
  have h2 := fun (V : World) (hb : Below w.heap.size w V) => rhandle_any kind s V (hT.below hb)
  have h3 := fun (V : World) (hb : Below w.heap.size w V) => match_any kind s t V ht (hT.below hb)
  have h4 := fun (V : World) (hb : Below w.heap.size w V) => rmatch_any kind s t V (hT.below hb)
  have hz := hnd_size kind s
  have h5 := fun (V : World) (hb : Below w.heap.size w V) => match_any kind s (hnd kind s).1 V (by omega) (hT.below hb)
  have h6 := fun (V : World) => live_any V
  obtain ⟨H, hH⟩ : ∃ H, H = (hnd kind s).1 := ⟨_, rfl⟩
  obtain ⟨E, hE⟩ : ∃ E, E = (hnd kind s).2 := ⟨_, rfl⟩
  rw [← hH, ← hE] at h1 h2 h3 h4 h5
  obtain ⟨r, hr⟩ : ∃ r, r = (decide (E = 0) && (H.toList == t.toList)) := ⟨_, rfl⟩
  rw [← hr] at h3 h4
  have e5 : (decide (E = 0) && (H.toList == H.toList)) = ((E : Int) == 0) := by
    rw [beq_self_eq_true, Bool.and_true, Bool.eq_iff_iff, decide_eq_true_eq, beq_iff_eq]
    omega
  rw [e5] at h5
  obtain ⟨q, hq⟩ : ∃ q, ((E : Int) == 0) = q := ⟨_, rfl⟩
  rw [hq] at h5
  have H1 := Lib.hid h1; have H2 := Lib.hid h2; have H3 := Lib.hid h3; have H4 := Lib.hid h4; have H5 := Lib.hid h5; have H6 := Lib.hid h6
  clear h1 h2 h3 h4 h5 h6 hz hH hE hr e5 hT
  go_enter Tryd.func3, Tryd.ntmps3
  go_wp2_with (first
    | (go_at_call 4; (with_reducible refine (H1.out _ (Below.refl _ _)).mono ?_); rintro e w1 ⟨rfl, hb1⟩)
    | (go_at_call 5; (with_reducible refine (H2.out _ hb1).mono ?_); rintro e w2 ⟨rfl, hb2⟩
       have hb2' := hb1.trans (hb2.mono hb1.size))
    | (go_at_call 6; (with_reducible refine (num_q _ _).mono ?_); rintro e w5 ⟨rfl, rfl⟩)
    | (go_at_call 7; (with_reducible refine (H3.out _ hb2').mono ?_); rintro e w3 ⟨rfl, hb3⟩
       have hb3' := hb2'.trans (hb3.mono hb2'.size))
    | (go_at_call 8; (with_reducible refine (H4.out _ hb3').mono ?_); rintro e w4 ⟨rfl, hb4⟩
       have hb4' := hb3'.trans (hb4.mono hb3'.size))
    | (go_at_call 7; (with_reducible refine (H5.out _ hb4').mono ?_); rintro e w5 ⟨rfl, hb5⟩
       have hb5' := hb4'.trans (hb5.mono hb4'.size))
    | (go_at_call 9; (with_reducible refine (H6.out _).mono ?_); rintro e w6 ⟨rfl, hb6⟩
       have hb6' := hb5'.trans (hb6.mono hb5'.size)))
  go_ret
  exact ⟨rfl, hb6'⟩
theorem row_handles (a0 : Int) (a1 a2 : ByteArray) (o0 : (Lit.int .i64 a0).wf = true) (o1 : a1.size ≤ 140737488351232) (o2 : a2.size ≤ 140737488351232) (W : World) (hT : Tabs W) :
    Calls Tryd.prog 3 #[.int .i64 a0, .string a1, .string a2] W fun e w' => e = .returned (.bool true) ∧ Below W.heap.size W w' :=
  handles_law a0 a1 a2 W (by omega) hT
theorem tabs_of_laid {W : World} (h : laidMet Tryd.prog [("wicket/digest.roots", Rows.laid_wicket_digest_roots), ("wicket/digest.first", Rows.laid_wicket_digest_first), ("wicket/wicketref02.roots", Rows.laid_wicket_wicketref02_roots)] W) : Tabs W :=
  ⟨(tab1_of_laid h (by simp)).1, (tab2_of_laid h (by simp)).1, tabF_of_laid h (by simp), (tab2_of_laid h (by simp)).2⟩
end Go.Proofs.YtaeipffenlkjpaaDoor.Sha
