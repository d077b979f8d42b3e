/-
  DigestOwn: what two Hashes answer is theirs alone, and each call's bytes are its own.
-/
import Derived.Test.YtfedlgcpgfofjaaDoorDAlone
import Derived.Test.YtfedlgcpgfofjaaDoorDSave
import Derived.Test.YtfedlgcpgfofjaaDoorDCodes
import Derived.Lib.AppendStr
namespace Go.Proofs.YtfedlgcpgfofjaaDoor.Sha
open Go.RowKit Go.Proofs.YtfedlgcpgfofjaaDoorW.PrintWords Go.Proofs.YtfedlgcpgfofjaaDoor.PAll Go.Proofs.YtfedlgcpgfofjaaDoor.Plain
set_option linter.unusedVariables false
/-- A row of the call's own, made while the memory grew from lo to hi. -/
def At (w : World) (B lo hi : Nat) (v : Value) (p : List Nat) : Prop := Own w B v p ∧ ∀ k, v.ownBlock = some k → lo ≤ k ∧ k < hi
theorem At.below {w w' : World} {B lo hi : Nat} {v : Value} {p : List Nat} (h : At w B lo hi v p) (hb : Below w.heap.size w w') : At w' B lo hi v p := ⟨h.1.below hb, h.2⟩
theorem At.new {w : World} {B lo : Nat} {v : Value} {p : List Nat} (h : Own w lo v p) (hB : B ≤ lo) : At w B lo w.heap.size v p := ⟨h.weak hB, h.lt⟩
theorem HashAt.grownO {w w' : World} {g : Nat} {r all : List Nat} {past : Nat} {row : Option Nat} (h : HashAt w g r past all) (hb : w.grownBy w' row) (hg : row ≠ some g) : HashAt w' g r past all := h.keep (hb.block g h.lt (fun e => hg e.symm))
section
variable {P : Program} {w : World} {ops : Array Oper} {rest : List Oper} {o : Oper} {a : Act} {Q : Exit → Act → World → Prop}
/-- append of a text's bytes, where a guard stands ahead of it. -/
theorem wplw_append_text (hgd : Region.wanted o (yielded ops a.tmps) = true) (s x : Operand) (t u : TypeId) (ho : o.op = .call { callee := .builtin .append, args := #[s, x], argTypes := #[t, u] })
    (hinfo : (P.info? 5).map (fun i => (i.zero, i.size, i.bytes)) = some (some (.int .u8 0), 1, 1)) (ht : P.underlying t = some (.slice 5)) (hu : P.underlying u = some .string) (base : Nat)
    (v : Value) (p : List Nat) (hs : a.eval s = v) (hown : Own w base v p) (S : ByteArray) (q : List Nat) (hx : a.eval x = .string S) (hq : Lib.strCells S = q.map v8) (hn : S.size = q.length)
    (hbytes : p.length + q.length ≤ 140737488355328) (hbase : base ≤ w.heap.size)
    (h : ∀ v' w', Own w' base v' (p ++ q) → w.grownBy w' v.ownBlock → wpList P ops Q rest (a.put o.dst v') w') : wpList P ops Q (o :: rest) a w :=
  wpList_wanted hgd fun _ hK => by
    obtain ⟨i, hi, hz0, hz1, hz2⟩ := info_parts hinfo
    obtain ⟨v', w', hrun, h2, h3, _⟩ := Lib.run_append_own_string (P := P) (w := w) base t u o.type 5 i ht hu hi hz0 hz1 hz2 v p.length (p.map v8) hown S (by unfold maxLen; omega) (by omega) hbase
    unfold Oper.wp execOp
    simp only [ho, resolve, invoke, builtin, Sem.run_bind, Sem.run_pure, Result.andThen_ok, List.map_toArray, List.map_cons, List.map_nil, hs, hx, hrun]
    refine hK _ _ (h v' w' ?_ h3)
    unfold Own
    rw [List.length_append, List.map_append, ← hn, ← hq]
    exact h2
end
def pick8 {α : Type} (x a y b d z f g : α) : Nat → α
  | 0 => x | 1 => a | 2 => y | 3 => b | 4 => d | 5 => z | 6 => f | _ => g
theorem fam8 {w : World} {B s0 s1 s2 s3 s4 s5 s6 s7 s8 : Nat} {x a y b d z f g : Value} {px pa py pb pd pz pf pg : List Nat} (h0 : At w B s5 s6 x px) (h1 : At w B s0 s1 a pa) (h2 : At w B s6 s7 y py) (h3 : At w B s1 s2 b pb)
    (h4 : At w B s2 s3 d pd) (h5 : At w B s7 s8 z pz) (h6 : At w B s3 s4 f pf) (h7 : At w B s4 s5 g pg) (m1 : s0 ≤ s1) (m2 : s1 ≤ s2) (m3 : s2 ≤ s3) (m4 : s3 ≤ s4) (m5 : s4 ≤ s5) (m6 : s5 ≤ s6) (m7 : s6 ≤ s7) (m8 : s7 ≤ s8) :
    ∃ F, Fam w B 8 F (pick8 x a y b d z f g) (pick8 px pa py pb pd pz pf pg) := by
  have hall : ∀ l, l < 8 → At w B (pick8 s5 s0 s6 s1 s2 s7 s3 s4 l) (pick8 s6 s1 s7 s2 s3 s8 s4 s5 l) (pick8 x a y b d z f g l) (pick8 px pa py pb pd pz pf pg l) := by
    intro l hl
    rcases l with _ | _ | _ | _ | _ | _ | _ | _ | l
    · exact h0
    · exact h1
    · exact h2
    · exact h3
    · exact h4
    · exact h5
    · exact h6
    · exact h7
    · omega
  have hsep : ∀ l l', l < 8 → l' < 8 → l ≠ l' → pick8 s6 s1 s7 s2 s3 s8 s4 s5 l ≤ pick8 s5 s0 s6 s1 s2 s7 s3 s4 l' ∨ pick8 s6 s1 s7 s2 s3 s8 s4 s5 l' ≤ pick8 s5 s0 s6 s1 s2 s7 s3 s4 l := by
    intro l l' hl hl' hne
    rcases l with _ | _ | _ | _ | _ | _ | _ | _ | l <;> first | omega | (rcases l' with _ | _ | _ | _ | _ | _ | _ | _ | l' <;> first | omega | (simp only [pick8]; omega))
  refine Fam.of_apart (fun l hl => (hall l hl).1) fun l l' hl hl' hne k h1 h2 => ?_
  have e1 := (hall l hl).2 k h1
  have e2 := (hall l' hl').2 k h2
  rcases hsep l l' hl hl' hne with h | h <;> omega
theorem pick8_cells (x a y b d z f g : Value) (l : Nat) (hl : l < 8) : (#[x, a, y, b, d, z, f, g] : Array Value)[l]? = some (pick8 x a y b d z f g l) := by
  rcases l with _ | _ | _ | _ | _ | _ | _ | _ | l
  all_goals first | rfl | omega
set_option maxRecDepth 100000 in
set_option maxHeartbeats 2000000 in
theorem law_own (p : List Nat) (s : ByteArray) (A : Option Addr) (n c : Nat) (w : World) (hn : n = p.length) (hm : n ≤ 1000000000) (hc : n ≤ c) (hpa : All 256 p) (hC : C8 w A p.length p) (hT : Tabs w) :
    Calls Tryd.prog 6 #[.slice A n c, .string s] w fun e w' => e = .returned (.bool true) ∧ Below w.heap.size w w' := by
  obtain ⟨T, hTx⟩ : ∃ T, T = txt (spell al64 (six p)) := ⟨_, rfl⟩
  obtain ⟨X, hX⟩ : ∃ X, X = txt (spell al16 (four p)) := ⟨_, rfl⟩
  have hTs : T.size = (six p).length := by rw [hTx, txt_size, spell_len]
  obtain ⟨FT, hFT⟩ : ∃ r, r = from64 (sN T) := ⟨_, rfl⟩
  obtain ⟨FX, hFX⟩ : ∃ r, r = from16 (sN X) := ⟨_, rfl⟩
  obtain ⟨FS, hFS⟩ : ∃ r, r = from64 (sN s) := ⟨_, rfl⟩
  have hT1 : T.size ≤ 65536 → FT = (p, 0, 0) := fun h => by rw [hFT, hTx, sN_txt _ (spell64_lt _)]; exact from64_back p hpa (by omega)
  have hTL : FT.1.length ≤ 65536 := by rw [hFT]; exact from64_len _
  have hXL : FX.1.length ≤ 65536 := by rw [hFX]; exact from16_len _
  have hSL : FS.1.length ≤ 65536 := by rw [hFS]; exact from64_len _
  obtain ⟨M, hM⟩ : ∃ M : List Nat, M = [109, 111, 114, 101] := ⟨_, rfl⟩
  have hMa : All 256 M := by rw [hM]; exact all_dec rfl
  have hMl : M.length = 4 := by rw [hM]; rfl
  obtain ⟨D, hD⟩ : ∃ D, D = sumOf p := ⟨_, rfl⟩
  have hDl : D.length = 32 := by rw [hD]; exact sumOf_len _
  obtain ⟨E, hE⟩ : ∃ E, E = sumOf (p ++ M) := ⟨_, rfl⟩
  have hEl : E.length = 32 := by rw [hE]; exact sumOf_len _
  obtain ⟨SV, hSV⟩ : ∃ SV, SV = saveOf first 0 p := ⟨_, rfl⟩
  have hSVl : SV.length = 104 := by rw [hSV]; exact saveOf_len _ _ _ first_len
  have hlive : ∀ (V : World), Below w.heap.size w V → Calls Tryd.prog 15 #[] V fun e w' => e = .returned (.bool true) ∧ Below V.heap.size V w' := fun V hb => live_any V (hT.below hb).1 (hT.below hb).2.2.1 (by have := (hT.below hb).2.2.2; omega)
  have hnew : ∀ (V : World), Below w.heap.size w V → Calls Tryd.prog 25 #[] V fun e w' => e = .returned (.pointer (some ⟨V.heap.size, 0, none⟩)) ∧ V.alloc (.cells (hcells first (List.replicate 64 0) 0).toArray 76) = w' := fun V hb => new_any V (hT.below hb).2.2.1
  have hwrite : ∀ (V : World) (g : Nat) (all q : List Nat) (A' : Option Addr) (n' c' : Nat), Below w.heap.size w V → w.heap.size ≤ g → HashAt V g first 0 all → All 256 all → All 256 q → all.length + q.length ≤ 2000000000 → n' = q.length → n' ≤ c' → C8 V A' q.length q → (0 < q.length → ∀ b o, A' = some ⟨b, o, none⟩ → b ≠ g) →
      Calls Tryd.prog 18 #[.pointer (some ⟨g, 0, none⟩), .slice A' n' c'] V fun e w' => e = .returned (.tuple #[]) ∧ HashAt w' g first 0 (all ++ q) ∧ V.grownBy w' (some g) := fun V g all q A' n' c' hb hg hH ha hq hl h1 h2 h3 h4 => by
    have h2w := hT.2.2.2
    exact write_c g 0 first all q A' n' c' V first_len first_all rfl (by omega) hH ha h1 h2 hq h3 h4 (hT.below hb).1 (by have := (hT.below hb).2.2.2; omega) (by omega)
  have hcopy : ∀ (V : World) (g : Nat), HashAt V g first 0 p → Calls Tryd.prog 21 #[.pointer (some ⟨g, 0, none⟩)] V fun e w' => e = .returned (.pointer (some ⟨V.heap.size, 0, none⟩)) ∧ HashAt w' V.heap.size first 0 p ∧ Below V.heap.size V w' := fun V g h => copy_any g 0 first p V first_len h
  have hsave : ∀ (V : World) (g : Nat), HashAt V g first 0 p → Calls Tryd.prog 22 #[.pointer (some ⟨g, 0, none⟩)] V fun e w' => ∃ A' n' c', e = .returned (.slice A' n' c') ∧ Own w' V.heap.size (.slice A' n' c') SV ∧ Below V.heap.size V w' := fun V g h => by
    rw [hSV]
    refine (save_any g 0 first p V first_len first_all rfl (by omega) h hpa).mono fun e w' ⟨v, he, hO, hb⟩ => ?_
    obtain ⟨A', n', c', _, rfl, _⟩ := hO.arg_
    exact ⟨A', n', c', he, hO, hb⟩
  have hb64 : ∀ (V : World), Below w.heap.size w V → Calls Tryd.prog 26 #[.slice A n c] V fun e w' => e = .returned (.string T) ∧ Below V.heap.size V w' := fun V hb => by
    rw [hTx]; exact rtob64_any p A n c V hn (by omega) hc hpa (hC.below hb)
  have hhex : ∀ (V : World), Below w.heap.size w V → Calls Tryd.prog 27 #[.slice A n c] V fun e w' => e = .returned (.string X) ∧ Below V.heap.size V w' := fun V hb => by
    rw [hX]; exact rtohex_any p A n c V hn (by omega) hc hpa (hC.below hb)
  have hfT : ∀ V : World, Calls Tryd.prog 28 #[.string T] V fun e w' => ∃ A' n' c', e = .returned (.tuple #[.slice A' n' c', .int .i64 (FT.2.1 : Int), .int .i64 (FT.2.2 : Int)]) ∧ Own w' V.heap.size (.slice A' n' c') FT.1 ∧ Below V.heap.size V w' := fun V => by
    rw [hFT]
    refine (from64_any T V).mono fun e w' ⟨v, he, hO, hb⟩ => ?_
    obtain ⟨A', n', c', _, rfl, _⟩ := hO.arg_
    exact ⟨A', n', c', he, hO, hb⟩
  have hfX : ∀ V : World, Calls Tryd.prog 29 #[.string X] V fun e w' => ∃ A' n' c', e = .returned (.tuple #[.slice A' n' c', .int .i64 (FX.2.1 : Int), .int .i64 (FX.2.2 : Int)]) ∧ Own w' V.heap.size (.slice A' n' c') FX.1 ∧ Below V.heap.size V w' := fun V => by
    rw [hFX]
    refine (from16_any X V).mono fun e w' ⟨v, he, hO, hb⟩ => ?_
    obtain ⟨A', n', c', _, rfl, _⟩ := hO.arg_
    exact ⟨A', n', c', he, hO, hb⟩
  have hfS : ∀ V : World, Calls Tryd.prog 28 #[.string s] V fun e w' => ∃ A' n' c', e = .returned (.tuple #[.slice A' n' c', .int .i64 (FS.2.1 : Int), .int .i64 (FS.2.2 : Int)]) ∧ Own w' V.heap.size (.slice A' n' c') FS.1 ∧ Below V.heap.size V w' := fun V => by
    rw [hFS]
    refine (from64_any s V).mono fun e w' ⟨v, he, hO, hb⟩ => ?_
    obtain ⟨A', n', c', _, rfl, _⟩ := hO.arg_
    exact ⟨A', n', c', he, hO, hb⟩
  have hsumD : ∀ (V : World) (g : Nat), Below w.heap.size w V → HashAt V g first 0 p → Calls Tryd.prog 19 #[.pointer (some ⟨g, 0, none⟩)] V fun e w' => e = .returned (.agg (D.map v8).toArray) ∧ Below V.heap.size V w' := fun V g hb h => by
    rw [hD]; exact hsum_any g 0 first p V first_len first_all rfl (by omega) h hpa (hT.below hb).1 (by have := (hT.below hb).2.2.2; omega)
  have hsumE : ∀ (V : World) (g : Nat), Below w.heap.size w V → HashAt V g first 0 (p ++ M) → Calls Tryd.prog 19 #[.pointer (some ⟨g, 0, none⟩)] V fun e w' => e = .returned (.agg (E.map v8).toArray) ∧ Below V.heap.size V w' := fun V g hb h => by
    rw [hE]; exact hsum_any g 0 first (p ++ M) V first_len first_all rfl (by rw [List.length_append]; omega) h (All.app hpa hMa) (hT.below hb).1 (by have := (hT.below hb).2.2.2; omega)
  have rsumD : ∀ (V : World), Below w.heap.size w V → Calls Tryd.prog 17 #[.slice A n c] V fun e w' => e = .returned (.agg (D.map v8).toArray) ∧ Below V.heap.size V w' := fun V hb => by
    rw [hD, hn]; exact rsum_any p A c V (by omega) hpa (hC.below hb) (hT.below hb).2.1 (hT.below hb).2.2.2
  have rsumE : ∀ (V : World) (A' : Option Addr) (n' c' : Nat), n' = (p ++ M).length → Below w.heap.size w V → C8 V A' (p ++ M).length (p ++ M) → Calls Tryd.prog 17 #[.slice A' n' c'] V fun e w' => e = .returned (.agg (E.map v8).toArray) ∧ Below V.heap.size V w' := fun V A' n' c' h1 hb h => by
    rw [hE, h1]; exact rsum_any (p ++ M) A' c' V (by rw [List.length_append]; omega) (All.app hpa hMa) h (hT.below hb).2.1 (hT.below hb).2.2.2
  have heq : ∀ (F : List Nat), F.length = 32 → ∀ V : World, (binOp .eql 24 (.agg (F.map v8).toArray) (.agg (F.map v8).toArray)).run Tryd.prog V = .ok (.bool true) V := fun F hF V => by
    have h := run_eql24 F F hF hF V
    rwa [decide_eq_true rfl] at h
  have heqD := heq D hDl
  have heqE := heq E hEl
  have HLIVE := Lib.hid hlive; have HNEW := Lib.hid hnew; have HWRITE := Lib.hid hwrite; have HCOPY := Lib.hid hcopy; have HSAVE := Lib.hid hsave; have HB64 := Lib.hid hb64; have HHEX := Lib.hid hhex; have HFT := Lib.hid hfT; have HFX := Lib.hid hfX; have HFS := Lib.hid hfS; have HSUMD := Lib.hid hsumD; have HSUME := Lib.hid hsumE; have RSUMD := Lib.hid rsumD; have RSUME := Lib.hid rsumE; have HT1 := Lib.hid hT1; have HPA := Lib.hid hpa; have HMA := Lib.hid hMa; have HC := Lib.hid hC; have HN := Lib.hid hn
  clear hlive hnew hwrite hcopy hsave hb64 hhex hfT hfX hfS hsumD hsumE rsumD rsumE hT1 hpa hMa hC hn heq hFT hFX hFS hTx hX hTs hD hE hDl hEl hSV hT
  have kc := fun (w : World) (C : Array Value) (n c : Nat) => Lib.run_convert_bytes_const (P := Tryd.prog) w 22 5 C n c Tryd.underlying22 Tryd.underlying5
  go_enter Tryd.func6, Tryd.ntmps6
  have hlens : ∀ l, l < 8 → (pick8 SV FT.1 SV FT.1 FX.1 SV FX.1 FS.1 l).length ≤ 1000000000000 := by
    intro l hl
    rcases l with _ | _ | _ | _ | _ | _ | _ | _ | l
    all_goals first | omega | (simp only [pick8]; omega)
  have HLENS := Lib.hid hlens; have HM := Lib.hid hM
  clear hlens hM hSVl hTL hXL hSL hMl
  go_upto_region 17 with (first
    | (go_at_call 15; (with_reducible refine (HLIVE.out _ (Below.refl _ _)).mono ?_); rintro e w1 ⟨rfl, hb1⟩)
    | (go_at_call 25; (with_reducible refine (HNEW.out _ hb1).mono ?_); rintro e w2 ⟨rfl, hw2⟩
       have H2 : HashAt w2 w1.heap.size first 0 [] := by rw [← hw2]; exact hash_new w1
       have hb2 : Below w.heap.size w w2 := by rw [← hw2]; exact hb1.alloc hb1.size _
       have z2 : w1.heap.size < w2.heap.size := by rw [← hw2]; simp
       have z1 := hb1.size
       clear hw2 hb1)
    | (at_builtin; refine wpl_append rfl _ _ _ rfl info_byte Tryd.underlying22 w2.heap.size (.slice (some ⟨w2.heap.size, 0, none⟩) 0 0) [] rfl (Own.nil_alloc w2 _ _ rfl (Nat.le_refl _)) A c n p rfl HN.out
          (HC.out.below (hb2.alloc hb2.size _)) (by rw [← HN.out]; simp; omega) (by simp) ?_
       intro v3 w3 O3 G3 P3
       rw [List.nil_append] at O3
       obtain ⟨A3, n3, c3, hn3, rfl, hC3⟩ := O3.arg_
       have hs3 : Below w2.heap.size w2 w3 := ((Below.refl _ _).alloc (Nat.le_refl _) _).grown G3 (by simp) (by simp [Value.ownBlock])
       have H3 := H2.below hs3
       have hb3 := hb2.trans (hs3.mono hb2.size)
       have hne3 : 0 < p.length → ∀ b o, A3 = some ⟨b, o, none⟩ → b ≠ w1.heap.size := fun _ b o e => by
         subst e
         have := (O3.lt b rfl).1
         omega
       have hl3 : ([] : List Nat).length + p.length ≤ 2000000000 := by rw [← HN.out]; simp; omega
       have HN3 := Lib.hid hn3
       clear G3 P3 hn3 H2 hs3 hb2)
    | (go_at_call 18; (with_reducible refine (HWRITE.out w3 w1.heap.size [] p _ _ _ hb3 z1 H3 All.nil HPA.out hl3 HN3.out (Own.c8 O3).2.1 hC3 hne3).mono ?_); rintro e w4 ⟨rfl, H4, G4⟩
       replace H4 : HashAt w4 w1.heap.size first 0 p := H4
       have hb4 : Below w.heap.size w w4 := hb3.grown G4 hb3.size (fun k hk => by injection hk; omega)
       clear G4 H3 hb3 O3 hC3 hne3 hl3)
    | (go_at_call 21; (with_reducible refine (HCOPY.out w4 _ H4).mono ?_); rintro e w5 ⟨rfl, C5, hc5⟩
       have H5 := H4.below hc5
       have hb5 := hb4.trans (hc5.mono hb4.size)
       have z4 := hb4.size
       have z14 := H4.lt
       have z55 := hb5.size
       have z5 := C5.lt
       have z6 := H5.lt
       have B5 := Below.refl w5.heap.size w5
       clear H4 hb4 hc5)
    | (go_at_call 26; (with_reducible refine (HB64.out w5 hb5).mono ?_); rintro e w6 ⟨rfl, hd6⟩
       have hb6 := hb5.trans (hd6.mono hb5.size)
       have B6 := B5.trans (hd6.mono B5.size)
       clear hb5 B5 hd6)
    | (go_at_call 27; (with_reducible refine (HHEX.out w6 hb6).mono ?_); rintro e w7 ⟨rfl, hd7⟩
       have hb7 := hb6.trans (hd7.mono hb6.size)
       have B7 := B6.trans (hd7.mono B6.size)
       clear hb6 B6 hd7)
    | (go_at_call 28; (with_reducible refine (HFT.out w7).mono ?_); rintro e w8 ⟨Aa, na, ca, rfl, O8, hd8⟩
       have hb8 := hb7.trans (hd8.mono hb7.size)
       have B8 := B7.trans (hd8.mono B7.size)
       have m8 := hd8.size
       have Tva8 : At w8 w5.heap.size w7.heap.size w8.heap.size (.slice Aa na ca) FT.1 := At.new O8 B7.size
       clear hb7 B7 hd8 O8 )
    | (go_at_call 28; (with_reducible refine (HFT.out w8).mono ?_); rintro e w9 ⟨Ab, nb, cb, rfl, O9, hd9⟩
       have hb9 := hb8.trans (hd9.mono hb8.size)
       have B9 := B8.trans (hd9.mono B8.size)
       have m9 := hd9.size
       have Tvb9 : At w9 w5.heap.size w8.heap.size w9.heap.size (.slice Ab nb cb) FT.1 := At.new O9 B8.size
       have Tva9 := Tva8.below hd9
       clear hb8 B8 hd9 O9 Tva8)
    | (go_at_call 29; (with_reducible refine (HFX.out w9).mono ?_); rintro e w10 ⟨Ad, nd, cd, rfl, O10, hd10⟩
       have hb10 := hb9.trans (hd10.mono hb9.size)
       have B10 := B9.trans (hd10.mono B9.size)
       have m10 := hd10.size
       have Tvd10 : At w10 w5.heap.size w9.heap.size w10.heap.size (.slice Ad nd cd) FX.1 := At.new O10 B9.size
       have Tva10 := Tva9.below hd10
       have Tvb10 := Tvb9.below hd10
       clear hb9 B9 hd10 O10 Tva9 Tvb9)
    | (go_at_call 29; (with_reducible refine (HFX.out w10).mono ?_); rintro e w11 ⟨Af, nf, cf, rfl, O11, hd11⟩
       have hb11 := hb10.trans (hd11.mono hb10.size)
       have B11 := B10.trans (hd11.mono B10.size)
       have m11 := hd11.size
       have Tvf11 : At w11 w5.heap.size w10.heap.size w11.heap.size (.slice Af nf cf) FX.1 := At.new O11 B10.size
       have Tva11 := Tva10.below hd11
       have Tvb11 := Tvb10.below hd11
       have Tvd11 := Tvd10.below hd11
       clear hb10 B10 hd11 O11 Tva10 Tvb10 Tvd10)
    | (go_at_call 28; (with_reducible refine (HFS.out w11).mono ?_); rintro e w12 ⟨Ag, ng, cg, rfl, O12, hd12⟩
       have hb12 := hb11.trans (hd12.mono hb11.size)
       have B12 := B11.trans (hd12.mono B11.size)
       have m12 := hd12.size
       have Tvg12 : At w12 w5.heap.size w11.heap.size w12.heap.size (.slice Ag ng cg) FS.1 := At.new O12 B11.size
       have Tva12 := Tva11.below hd12
       have Tvb12 := Tvb11.below hd12
       have Tvd12 := Tvd11.below hd12
       have Tvf12 := Tvf11.below hd12
       clear hb11 B11 hd12 O12 Tva11 Tvb11 Tvd11 Tvf11)
    | (go_at_call 22; (with_reducible refine (HSAVE.out w12 w1.heap.size (H5.below B12)).mono ?_); rintro e w13 ⟨Ax, nx, cx, rfl, O13, hd13⟩
       have hb13 := hb12.trans (hd13.mono hb12.size)
       have B13 := B12.trans (hd13.mono B12.size)
       have m13 := hd13.size
       have Tvx13 : At w13 w5.heap.size w12.heap.size w13.heap.size (.slice Ax nx cx) SV := At.new O13 B12.size
       have Tva13 := Tva12.below hd13
       have Tvb13 := Tvb12.below hd13
       have Tvd13 := Tvd12.below hd13
       have Tvf13 := Tvf12.below hd13
       have Tvg13 := Tvg12.below hd13
       clear hb12 B12 hd13 O13 Tva12 Tvb12 Tvd12 Tvf12 Tvg12)
    | (go_at_call 22; (with_reducible refine (HSAVE.out w13 w4.heap.size (C5.below B13)).mono ?_); rintro e w14 ⟨Ay, ny, cy, rfl, O14, hd14⟩
       have hb14 := hb13.trans (hd14.mono hb13.size)
       have B14 := B13.trans (hd14.mono B13.size)
       have m14 := hd14.size
       have Tvy14 : At w14 w5.heap.size w13.heap.size w14.heap.size (.slice Ay ny cy) SV := At.new O14 B13.size
       have Tva14 := Tva13.below hd14
       have Tvb14 := Tvb13.below hd14
       have Tvd14 := Tvd13.below hd14
       have Tvf14 := Tvf13.below hd14
       have Tvg14 := Tvg13.below hd14
       have Tvx14 := Tvx13.below hd14
       clear hb13 B13 hd14 O14 Tva13 Tvb13 Tvd13 Tvf13 Tvg13 Tvx13)
    | (go_at_call 22; (with_reducible refine (HSAVE.out w14 w1.heap.size (H5.below B14)).mono ?_); rintro e w15 ⟨Az, nz, cz, rfl, O15, hd15⟩
       have hb15 := hb14.trans (hd15.mono hb14.size)
       have B15 := B14.trans (hd15.mono B14.size)
       have m15 := hd15.size
       have Tvz15 : At w15 w5.heap.size w14.heap.size w15.heap.size (.slice Az nz cz) SV := At.new O15 B14.size
       have Tva15 := Tva14.below hd15
       have Tvb15 := Tvb14.below hd15
       have Tvd15 := Tvd14.below hd15
       have Tvf15 := Tvf14.below hd15
       have Tvg15 := Tvg14.below hd15
       have Tvx15 := Tvx14.below hd15
       have Tvy15 := Tvy14.below hd15
       clear hb14 B14 hd15 O15 Tva14 Tvb14 Tvd14 Tvf14 Tvg14 Tvx14 Tvy14)
    | (go_at_call 30
       (obtain ⟨F, hF⟩ := fam8 Tvx15 Tva15 Tvy15 Tvb15 Tvd15 Tvz15 Tvf15 Tvg15 m8 m9 m10 m11 m12 m13 m14 m15
        have hF' := hF.below ((Below.refl _ _).alloc (Nat.le_refl _) (.cells #[.slice Ax nx cx, .slice Aa na ca, .slice Ay ny cy, .slice Ab nb cb, .slice Ad nd cd, .slice Az nz cz, .slice Af nf cf, .slice Ag ng cg] 22))
        have hs15 : w5.heap.size ≤ (w15.alloc (.cells #[.slice Ax nx cx, .slice Aa na ca, .slice Ay ny cy, .slice Ab nb cb, .slice Ad nd cd, .slice Az nz cz, .slice Af nf cf, .slice Ag ng cg] 22)).heap.size := by have := B15.size; simp; omega
        refine (alone_any w5.heap.size 8 w15.heap.size F _ _ #[.slice Ax nx cx, .slice Aa na ca, .slice Ay ny cy, .slice Ab nb cb, .slice Ad nd cd, .slice Az nz cz, .slice Af nf cf, .slice Ag ng cg] _ (by decide) (Blk.new w15 22 _) (fun l hl => pick8_cells _ _ _ _ _ _ _ _ l hl) hF' hs15 HLENS.out).mono ?_
        rintro e w16 ⟨rfl, hal⟩
        have hb16 : Below w.heap.size w w16 := (hb15.alloc hb15.size _).trans (hal.mono z55)
        have B16 : Below w5.heap.size w5 w16 := (B15.alloc B15.size _).trans hal
        have H16 := H5.below B16
        have C16 := C5.below B16
        clear hF hF' hs15 hal Tvx15 Tva15 Tvy15 Tvb15 Tvd15 Tvz15 Tvf15 Tvg15 hb15 B15 B16 H5 C5))
    | (go_at_call 18
       (have lc : C8 (w16.alloc (.cells (c8 [109, 111, 114, 101]) 5 (4, 5))) (some ⟨w16.heap.size, 0, none⟩) M.length M := by rw [HM.out]; exact C8.lit w16 [109, 111, 114, 101] w16.heap.size 4 (4, 5) rfl rfl (by decide)
        have hl16 : p.length + M.length ≤ 2000000000 := by rw [HM.out, ← HN.out]; simp; omega
        have hn4 : 4 = M.length := by rw [HM.out]; rfl
        have hbl := hb16.alloc hb16.size (.cells (c8 [109, 111, 114, 101]) 5 (4, 5))
        have hlt16 := C16.lt
        refine (HWRITE.out _ w4.heap.size p M _ 4 4 hbl z4 (C16.alloc _) HPA.out HMA.out hl16 hn4 (Nat.le_refl 4) lc (fun _ b' o' e => by injection e with e; injection e with e; omega)).mono ?_
        rintro e w17 ⟨rfl, C17, G17⟩
        have hb17 := hbl.grown G17 hbl.size (fun k hk => by injection hk; omega)
        have H17 := (H16.alloc (.cells (c8 [109, 111, 114, 101]) 5 (4, 5))).grownO G17 (fun e => by injection e with e; omega)
        clear lc hl16 hn4 hbl hlt16 G17 H16 C16 hb16))
    | (go_at_call 28; (with_reducible refine (HFT.out w17).mono ?_); rintro e w18 ⟨Ai, ni, ci, rfl, O18, hd18⟩
       have hb18 := hb17.trans (hd18.mono hb17.size)
       have H18 := H17.below hd18
       have C18 := C17.below hd18
       have s18 := hb18.size
       have O18' := O18.weak (base' := w.heap.size) hb17.size
       clear hb17 H17 C17 hd18 O18))
  have olt : ∀ k, (Value.slice Ai ni ci).ownBlock = some k → k < w18.heap.size := fun k hk => (O18'.lt k hk).2
  by_cases hsz : T.size ≤ 65536
  · have q0 : ((T.size : Nat) : Int) ≤ 65536 := by omega
    have e0 := HT1.out hsz
    have e1 : (FT.2.1 : Int) = 0 := by rw [e0]; rfl
    have e2 : FT.1 = p := by rw [e0]
    rw [e2] at O18'
    have hn4 : ni = p.length := (Own.c8 O18').1
    have HN4 := Lib.hid hn4; have OLT := Lib.hid olt
    clear hn4 e0 e2 hsz olt
    go_wp2_with (first
      | (go_at_call 19; (with_reducible refine (HSUMD.out w18 w1.heap.size hb18 H18).mono ?_); rintro e w19 ⟨rfl, hd19⟩
         have hb19 := hb18.trans (hd19.mono s18)
         have O19 := O18'.below hd19
         have C19 := C18.below hd19
         have s19 := hb19.size
         have d19 := hd19.size
         clear hb18 O18' C18 hd19)
      | (go_at_call 17; (with_reducible refine (RSUMD.out w19 hb19).mono ?_); rintro e w20 ⟨rfl, hd20⟩
         have hb20 := hb19.trans (hd20.mono s19)
         have O20 := O19.below hd20
         have C20 := C19.below hd20
         have s20 := hb20.size
         have d20 := hd20.size
         clear hb19 O19 C19 hd20)
      | (go_at_call 19; (with_reducible refine (HSUME.out w20 w4.heap.size hb20 C20).mono ?_); rintro e w21 ⟨rfl, hd21⟩
         have hb21 := hb20.trans (hd21.mono s20)
         have O21 := O20.below hd21
         have s21 := hb21.size
         have d21 := hd21.size
         clear hb20 O20 C20 hd21)
      | (at_builtin; (refine wplw_append (by first | rfl | simp [Region.wanted, yielded]) _ _ _ rfl info_byte Tryd.underlying22 w21.heap.size (.slice (some ⟨w21.heap.size, 0, none⟩) 0 0) [] rfl (Own.nil_alloc w21 _ _ rfl (Nat.le_refl _)) A c n p rfl HN.out (HC.out.below (hb21.alloc hb21.size _)) (by rw [← HN.out]; simp; omega) (by simp) ?_)
         intro v22 w22 P22 G22 _
         rw [List.nil_append] at P22
         have hd22 : Below w21.heap.size w21 w22 := ((Below.refl _ _).alloc (Nat.le_refl _) _).grown G22 (by simp) (by simp [Value.ownBlock])
         have hb22 := hb21.trans (hd22.mono s21)
         have O22 := O21.below hd22
         have Q22 : Own w22 w21.heap.size v22 p := P22
         have s22 := hd22.size
         clear G22 hd22 hb21 O21 P22)
      | (at_builtin; (refine wplw_append_text (by first | rfl | simp [Region.wanted, yielded]) _ _ _ _ rfl info_byte Tryd.underlying22 Tryd.underlying9 w21.heap.size v22 p rfl Q22 _ M rfl (by rw [HM.out]; rfl) (by rw [HM.out]; rfl) (by rw [← HN.out, HM.out]; simp; omega) s22 ?_)
         intro v23 w23 Q23 G23
         have hne23 : ∀ k, v22.ownBlock = some k → w21.heap.size ≤ k := fun k hk => (Q22.lt k hk).1
         have hb23 := hb22.grown G23 hb22.size (fun k hk => Nat.le_trans s21 (hne23 k hk))
         have O23 := O22.grown G23 (fun k hk e => by have h1 := hne23 k hk; have h2 := (O22.lt k e).2; have h3 := OLT.out k e; omega)
         obtain ⟨A5, n5, c5, hn5, hv5, hC5⟩ := Q23.arg_
         subst hv5
         have HN5 := Lib.hid hn5
         have s23 := hb23.size
         clear G23 Q23 Q22 hne23 hb22 O22 hn5)
      | (go_at_call 17; (with_reducible refine (RSUME.out w23 _ _ _ HN5.out hb23 hC5).mono ?_); rintro e w24 ⟨rfl, hd24⟩
         have hb24 := hb23.trans (hd24.mono s23)
         have O24 := O23.below hd24
         clear hb23 hd24 O23 hC5)
      | (go_at_call 31; (with_reducible refine (num_any _ _).mono ?_); rintro e w25 ⟨rfl, hd25⟩
         have hb25 := hb24.trans (hd25.mono hb24.size)
         have O25 := O24.below hd25
         clear hb24 hd25 O24)
      | (go_at_call 32; (with_reducible refine (same_self p _ _ _ _ _ _ _ HN4.out HN.out (Own.c8 O25).2.1 hc (Own.c8 O25).2.2 (HC.out.below hb25)).mono ?_); rintro e w26 ⟨rfl, hd26⟩
         have hb26 := hb25.trans (hd26.mono hb25.size)
         clear hb25 hd26 O25))
    go_ret
    exact ⟨rfl, hb26⟩
  · have q0 : (65536 : Int) < ((T.size : Nat) : Int) := by omega
    have OLT := Lib.hid olt
    clear hsz olt
    go_wp2_with (first
      | (go_at_call 19; (with_reducible refine (HSUMD.out w18 w1.heap.size hb18 H18).mono ?_); rintro e w19 ⟨rfl, hd19⟩
         have hb19 := hb18.trans (hd19.mono s18)
         have O19 := O18'.below hd19
         have C19 := C18.below hd19
         have s19 := hb19.size
         have d19 := hd19.size
         clear hb18 O18' C18 hd19)
      | (go_at_call 17; (with_reducible refine (RSUMD.out w19 hb19).mono ?_); rintro e w20 ⟨rfl, hd20⟩
         have hb20 := hb19.trans (hd20.mono s19)
         have O20 := O19.below hd20
         have C20 := C19.below hd20
         have s20 := hb20.size
         have d20 := hd20.size
         clear hb19 O19 C19 hd20)
      | (go_at_call 19; (with_reducible refine (HSUME.out w20 w4.heap.size hb20 C20).mono ?_); rintro e w21 ⟨rfl, hd21⟩
         have hb21 := hb20.trans (hd21.mono s20)
         have O21 := O20.below hd21
         have s21 := hb21.size
         have d21 := hd21.size
         clear hb20 O20 C20 hd21)
      | (at_builtin; (refine wplw_append (by first | rfl | simp [Region.wanted, yielded]) _ _ _ rfl info_byte Tryd.underlying22 w21.heap.size (.slice (some ⟨w21.heap.size, 0, none⟩) 0 0) [] rfl (Own.nil_alloc w21 _ _ rfl (Nat.le_refl _)) A c n p rfl HN.out (HC.out.below (hb21.alloc hb21.size _)) (by rw [← HN.out]; simp; omega) (by simp) ?_)
         intro v22 w22 P22 G22 _
         rw [List.nil_append] at P22
         have hd22 : Below w21.heap.size w21 w22 := ((Below.refl _ _).alloc (Nat.le_refl _) _).grown G22 (by simp) (by simp [Value.ownBlock])
         have hb22 := hb21.trans (hd22.mono s21)
         have O22 := O21.below hd22
         have Q22 : Own w22 w21.heap.size v22 p := P22
         have s22 := hd22.size
         clear G22 hd22 hb21 O21 P22)
      | (at_builtin; (refine wplw_append_text (by first | rfl | simp [Region.wanted, yielded]) _ _ _ _ rfl info_byte Tryd.underlying22 Tryd.underlying9 w21.heap.size v22 p rfl Q22 _ M rfl (by rw [HM.out]; rfl) (by rw [HM.out]; rfl) (by rw [← HN.out, HM.out]; simp; omega) s22 ?_)
         intro v23 w23 Q23 G23
         have hne23 : ∀ k, v22.ownBlock = some k → w21.heap.size ≤ k := fun k hk => (Q22.lt k hk).1
         have hb23 := hb22.grown G23 hb22.size (fun k hk => Nat.le_trans s21 (hne23 k hk))
         have O23 := O22.grown G23 (fun k hk e => by have h1 := hne23 k hk; have h2 := (O22.lt k e).2; have h3 := OLT.out k e; omega)
         obtain ⟨A5, n5, c5, hn5, hv5, hC5⟩ := Q23.arg_
         subst hv5
         have HN5 := Lib.hid hn5
         have s23 := hb23.size
         clear G23 Q23 Q22 hne23 hb22 O22 hn5)
      | (go_at_call 17; (with_reducible refine (RSUME.out w23 _ _ _ HN5.out hb23 hC5).mono ?_); rintro e w24 ⟨rfl, hd24⟩
         have hb24 := hb23.trans (hd24.mono s23)
         have O24 := O23.below hd24
         clear hb23 hd24 O23 hC5))
    go_ret
    exact ⟨rfl, hb24⟩
theorem row_own (a0 : List Int) (a1 : ByteArray) (o0 : a0.length * 1 ≤ 140737488351232 ∧ ∀ y, y ∈ a0 → (Lit.int .u8 y).wf = true) (o1 : a1.size ≤ 140737488351232)
    (hb : ((a0.map fun y => 1).sum + 1) + (a1.size + 1) ≤ 1048576) (W : World) (A0 : Option Addr) (c0 : Nat)
    (hr0 : Kd.C (Kd.int .u8) W A0 a0.length a0) (hc0 : a0.length ≤ c0) (hT : Tabs W) :
    Calls Tryd.prog 6 #[.slice A0 a0.length c0, .string a1] W fun e w' => e = .returned (.bool true) ∧ Below W.heap.size W w' := by
  obtain ⟨h1, h2⟩ := bytes_of_ok o0.2
  rw [sum_ones] at hb
  have hl := toN_len a0
  exact law_own (toN a0) a1 A0 a0.length c0 W hl.symm (by omega) hc0 h2 (by show Kd.C _ _ _ _ _; rw [h1, hl]; exact hr0) hT
end Go.Proofs.YtfedlgcpgfofjaaDoor.Sha
