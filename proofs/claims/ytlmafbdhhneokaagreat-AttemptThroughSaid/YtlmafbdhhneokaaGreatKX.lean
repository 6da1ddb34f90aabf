/- Several texts in one, each under its own remark or none; nothing here is a statement on the program. -/
import Derived.Test.YtlmafbdhhneokaaGreatKW
namespace Go.Proofs.YtlmafbdhhneokaaGreat
open Go GW Go.Proofs
attribute [local irreducible] bnd ldV stV ifV binV eqI
set_option linter.unusedVariables false
set_option linter.unusedSimpArgs false
theorem mup0 {b : Nat} {es : Array MapEntry} {clock : Nat} {l : List Part} {h : GH} {k x : Value} {K : GH → Prop} {ik : IntKind} (a : All (pts b (.obj (.map es clock)) :: l) h) (es' : Array MapEntry) (hf : Instr.findNow (.int ik) k es.toList 0 = some none) (he : es.push { key := k, val := x, born := clock } = es')
    (hK : ∀ h', All (pts b (.obj (.map es' (clock + 1))) :: l) h' → K h') : bnd (mupV ik (.map (some b)) k x h) K := by
  subst he
  have e := a.pt0
  refine bnd_of (v := GW.upd h b (.obj (.map (es.push { key := k, val := x, born := clock }) (clock + 1)))) ?_ (hK _ a.upd0)
  unfold mupV
  simp only [e, hf]
theorem mlk_at {b : Nat} {es : Array MapEntry} {clock : Nat} {h : GH} {k v : Value} {i : Nat} {ik : IntKind} (e : h b = some (.obj (.map es clock))) (hf : Instr.findNow (.int ik) k es.toList 0 = some (some (i, v))) : mlkV ik (.map (some b)) k h = some v := by
  unfold mlkV
  simp only [e, hf]
section
variable {b c d rb pb ob : Nat} {v : Vw} {w : Wk} {R : List Part} {h : GH} {K : Value → GH → Prop} {o : Op}
theorem T_cValueMay {x : Int} (hK : K (.bool (decide (0 ≤ x ∧ x < 1099511627776))) h) : T Tryz.prog 65 [i64 x] h K := by
  apply S65_T
  unfold S65
  exact T_Below hK
theorem T_cViewMay (hp : All (pts b (vwRow v) :: R) h) (ok : v.ok) (hK : K (.bool true) h) : T Tryz.prog 49 [ptr b] h K := by
  apply S49_T
  unfold S49
  refine Lfp_fam (ι := Nat) (fun p => [ptr b, i64 p]) (fun p h' => p ≤ 16 ∧ h' = h) (fun p => 16 - p) ?_ 0 h ⟨by omega, rfl⟩
  rintro i h2 X ⟨hi, rfl⟩ again
  simp only [tup_zero, tup_succ]
  (repeat first|refine wx ?_|refine wy ?_|refine wz ?_|refine wv ?_|refine wh ?_)
  refine ifV_cases (fun q => ?_) fun q => hK
  have hi' : i < 16 := by omega
  have e1 := Vw.cell_w (t := []) ok hi'
  have e2 := Vw.cell_n (t := []) ok hi'
  rw [List.append_nil] at e1 e2
  have hw : Vw.val (v.w.getD i 0) := by
    rw [List.getD_eq_getElem?_getD]
    cases e : v.w[i]? with
    | none => exact Vw.val0
    | some x => exact ok.rw x (List.mem_of_getElem? e)
  have hn := ok.at i
  (repeat first|refine wx ?_|refine wy ?_|refine wz ?_|refine wv ?_|refine wh ?_)
  refine bnd_of (iaV_at hi' .i64) ?_
  refine ld0 hp (off := 0 + 16 + i * 1) (by rw [Nat.zero_add, Nat.mul_one]; exact e1) ?_
  refine T_cValueMay ?_
  rw [decide_eq_true (show 0 ≤ v.w.getD i 0 ∧ v.w.getD i 0 < 1099511627776 from hw)]
  (repeat first|refine wx ?_|refine wy ?_|refine wz ?_|refine wv ?_|refine wh ?_)
  refine bnd_of (iaV_at hi' .i64) ?_
  refine ld0 hp (off := 0 + 32 + i * 1) (by rw [Nat.zero_add, Nat.mul_one]; exact e2) ?_
  refine T_cValueMay ?_
  rw [decide_eq_true (show 0 ≤ v.n.getD i 0 ∧ v.n.getD i 0 < 1099511627776 from hn)]
  (repeat first|refine wx ?_|refine wy ?_|refine wz ?_|refine wv ?_|refine wh ?_)
  exact again (i + 1) _ ⟨by omega, rfl⟩ (by omega)
theorem T_cOfBank {k : Int} (h0 : 0 ≤ k) (hK : K (.bool (decide (k ≤ 5))) h) : T Tryz.prog 52 [i64 k] h K := by
  apply S52_T
  unfold S52
  (repeat first|refine wx ?_|refine wy ?_|refine wz ?_|refine wv ?_|refine wh ?_)
  refine ifV_p h0 ?_
  (repeat first|refine wx ?_|refine wy ?_|refine wz ?_|refine wv ?_|refine wh ?_)
  exact hK
theorem opAt_pts (hp : All (pts ob (opRow o) :: R) h) : opAt h ob 0 o := fun j x e => by rw [ldV_cell hp.pt0, Nat.zero_add]; exact e
theorem T_bankDo (hp : All R h) (ok : v.ok) (m : o.may = true) (hk : o.kind ≤ 5) (hK : ∀ u h', All (askP (v.one o) u :: R) h' → K (.tuple #[u, i64 0]) h') : T Tryz.prog 53 [vwV v, .agg o.enc.toArray] h K := by
  apply S53_T
  unfold S53
  have k0 := (Op.may_kind m).1
  refine nwView hp ok fun vb h1 hp => ?_
  refine nw hp (opRow o) rfl fun ob h2 hp => ?_
  refine nw hp (.row 71 askZ 50 true) rfl fun rb h3 hp => ?_
  replace hp := hp.up 2
  replace hp := Go.Proofs.YtlmafbdhhneokaaGreat.hn hp
  refine T_cViewMay hp ok ?_
  (repeat first|refine wx ?_|refine wy ?_|refine wz ?_|refine wv ?_|refine wh ?_)
  replace hp := hp.re 3 [2, 1, 0]
  replace hp := Go.Proofs.YtlmafbdhhneokaaGreat.hn hp
  refine T_OpMay (opAt_pts hp) ?_
  rw [m]
  (repeat first|refine wx ?_|refine wy ?_|refine wz ?_|refine wv ?_|refine wh ?_)
  refine T_cOfBank k0 ?_
  rw [decide_eq_true hk]
  (repeat first|refine wx ?_|refine wy ?_|refine wz ?_|refine wv ?_|refine wh ?_)
  unfold S53_j1
  refine wK (v := [Value.func (.func 76) #[] #[], .func (.func 77) #[] #[], .func (.func 78) #[] #[], .func (.func 79) #[] #[], .func (.func 80) #[] #[], .func (.func 81) #[] #[]]) rfl ?_
  refine nwst hp (.row _ [Value.func (.func 76) #[] #[], .func (.func 77) #[] #[], .func (.func 78) #[] #[], .func (.func 79) #[] #[], .func (.func 80) #[] #[], .func (.func 81) #[] #[]] 6 true) rfl rfl rfl rfl fun fb h4 hp => ?_
  have hv : (v.cells.drop 0).take 48 = v.cells := by rw [List.drop_zero, ← Vw.len ok, List.take_length]
  refine wK (ldV_agg (hp.pt (i := 3) rfl) 48 0 (by rw [Vw.len ok]; decide)) ?_
  rw [hv]
  refine bnd_of (fill_walk ok) ?_
  have wok : (⟨v, none⟩ : Wk).ok := ⟨ok, fun c e => by cases e⟩
  refine nw hp (wkRow ⟨v, none⟩) ?_ fun wb h5 hp => ?_
  · show GObj.row _ (v.cells ++ [Value.nilIface]) (v.cells ++ [Value.nilIface]).length _ = _
    rw [List.length_append, Vw.len ok]; rfl
  (repeat first|refine wx ?_|refine wy ?_|refine wz ?_|refine wv ?_|refine wh ?_)
  have rest : ∀ (h6 : GH) (r : Answer × Wk), r.2.ok → askOf v r = v.one o → All (pts wb (wkRow r.2) :: pts ob (opRow o) :: pts rb (.row 71 askZ 50 true) :: pts vb (vwRow v) :: R) h6 → newV 55 [i64 0, i64 0] h6 (fun v15 h16 => bnd (stV 2 v15 (ansV r.1) h16) fun h17 => bnd (ldV 2 true v15 h17) fun v18 => T Tryz.prog 70 [ptr wb, ptr vb, v18] h17 fun v19 h20 => bnd (stV 50 (ptr rb) v19 h20) fun h21 => bnd (ldV 50 true (ptr rb) h21) fun v22 => K (.tuple #[v22, i64 0]) h21) := by
    intro h6 r rok e hp
    refine nw hp (resRow (i64 0) (i64 0)) rfl fun ab h7 hp => ?_
    refine retA (K := fun v18 h17 => T Tryz.prog 70 [ptr wb, ptr vb, v18] h17 fun v19 h20 => bnd (stV 50 (ptr rb) v19 h20) fun h21 => bnd (ldV 50 true (ptr rb) h21) fun v22 => K (.tuple #[v22, i64 0]) h21) hp fun h8 hp => ?_
    replace hp := hp.re 4 [0, 3, 2]
    replace hp := Go.Proofs.YtlmafbdhhneokaaGreat.hn hp
    refine T_wAsk hp rok ok fun u h9 hp => ?_
    rw [show (r.1, r.2) = r from rfl, e] at hp
    refine askP_open hp fun s eu hp => ?_
    have hs := rowP_one hp
    rw [eu]
    replace hp := hp.re 3 [2, 0]
    replace hp := Go.Proofs.YtlmafbdhhneokaaGreat.hn hp
    refine retK (K := fun u h => K (.tuple #[u, i64 0]) h) hp (askC_len vwZ_ok) (Vw.one_ok ok m).1 hs.1 fun h10 hp => ?_
    exact hK _ _ (askP_mk hp)
  have hone : ∀ r, r = Wk.bank ⟨v, none⟩ o → askOf v r = v.one o := fun r e => by
    unfold Vw.one; rw [if_pos hk, e]; rfl
  have rok := Wk.bank_ok wok (Op.may_bk m hk) k0 hk
  replace hp := hp.re 5 [2, 0, 1, 3, 4]
  replace hp := Go.Proofs.YtlmafbdhhneokaaGreat.hn hp
  obtain ⟨k, hkk⟩ := Int.eq_ofNat_of_zero_le k0
  have bk := Op.may_bk m hk
  have go : ∀ (F : FuncId), (∀ {K' : Value → GH → Prop}, (∀ h', All (pts wb (wkRow (Wk.bank ⟨v, none⟩ o).2) :: pts ob (opRow o) :: pts rb (.row 71 askZ 50 true) :: pts vb (vwRow v) :: R) h' → K' (ansV (Wk.bank ⟨v, none⟩ o).1) h') → T Tryz.prog F [ptr wb, ptr ob] h5 K') → [Value.func (.func 76) #[] #[], .func (.func 77) #[] #[], .func (.func 78) #[] #[], .func (.func 79) #[] #[], .func (.func 80) #[] #[], .func (.func 81) #[] #[]][k]? = some (.func (.func F) #[] #[]) → bnd (ldV 1 false (.pointer (some ⟨fb, 0 + k * 1, none⟩)) h5) fun v12 => callV Tryz.prog v12 [ptr wb, ptr ob] h5 fun v13 h14 => newV 55 [i64 0, i64 0] h14 (fun v15 h16 => bnd (stV 2 v15 v13 h16) fun h17 => bnd (ldV 2 true v15 h17) fun v18 => T Tryz.prog 70 [ptr wb, ptr vb, v18] h17 fun v19 h20 => bnd (stV 50 (ptr rb) v19 h20) fun h21 => bnd (ldV 50 true (ptr rb) h21) fun v22 => K (.tuple #[v22, i64 0]) h21) := by
    intro F hF hf
    refine ld2 hp (off := 0 + k * 1) (by rw [Nat.zero_add, Nat.mul_one]; exact hf) ?_
    show T Tryz.prog F [ptr wb, ptr ob] h5 _
    exact hF fun h6 hp => rest h6 _ rok (hone _ rfl) hp
  rw [hkk]
  have hk6 : k < 6 := by omega
  refine bnd_of (iaV_at hk6 .i64) ?_
  replace hp := hp.re 5 [0, 1, 3, 4]
  replace hp := Go.Proofs.YtlmafbdhhneokaaGreat.hn hp
  match k, hk6, hkk with
  | 0, _, e => exact go 76 (fun hK => T_bkOpen hp wok bk e hK) rfl
  | 1, _, e => exact go 77 (fun hK => T_bkCloses hp wok bk e hK) rfl
  | 2, _, e => exact go 78 (fun hK => T_bkDeposit hp wok bk e hK) rfl
  | 3, _, e => exact go 79 (fun hK => T_bkWithdraw hp wok bk e hK) rfl
  | 4, _, e => exact go 80 (fun hK => T_bkTransfer hp wok bk e hK) rfl
  | 5, _, e => exact go 81 (fun hK => T_bkSum hp wok e hK) rfl
end
end Go.Proofs.YtlmafbdhhneokaaGreat
namespace Go.Proofs.YtlmafbdhhneokaaGreat
open Go GW Go.Proofs
attribute [local irreducible] bnd ldV stV ifV binV eqI
set_option linter.unusedVariables false
set_option linter.unusedSimpArgs false
def skMap : Array MapEntry := #[⟨i64 6, .func (.func 71) #[] #[], 0⟩, ⟨i64 7, .func (.func 72) #[] #[], 1⟩, ⟨i64 8, .func (.func 73) #[] #[], 2⟩, ⟨i64 10, .func (.func 74) #[] #[], 3⟩]
section
variable {b c d rb pb ob : Nat} {v : Vw} {w : Wk} {R : List Part} {h : GH} {K : Value → GH → Prop} {o : Op}
theorem T_skipDo (hp : All R h) (ok : v.ok) (m : o.may = true) (hk : 5 < o.kind) (hK : ∀ u h', All (askP (v.one o) u :: R) h' → K (.tuple #[u, i64 0]) h') : T Tryz.prog 51 [vwV v, .agg o.enc.toArray] h K := by
  apply S51_T
  unfold S51
  have k0 := (Op.may_kind m).1
  refine nwView hp ok fun vb h1 hp => ?_
  refine nw hp (opRow o) rfl fun ob h2 hp => ?_
  refine nw hp (.row 71 askZ 50 true) rfl fun rb h3 hp => ?_
  replace hp := hp.up 2
  replace hp := hn hp
  refine T_cViewMay hp ok ?_
  (repeat first|refine wx ?_|refine wy ?_|refine wz ?_|refine wv ?_|refine wh ?_)
  replace hp := hp.re 3 [2, 1, 0]
  replace hp := hn hp
  refine T_OpMay (opAt_pts hp) ?_
  rw [m]
  (repeat first|refine wx ?_|refine wy ?_|refine wz ?_|refine wv ?_|refine wh ?_)
  refine T_cOfBank k0 ?_
  rw [decide_eq_false (by omega)]
  (repeat first|refine wx ?_|refine wy ?_|refine wz ?_|refine wv ?_|refine wh ?_)
  unfold S51_j1
  have hv : (v.cells.drop 0).take 48 = v.cells := by rw [List.drop_zero, ← Vw.len ok, List.take_length]
  refine wK (ldV_agg (hp.pt (i := 2) rfl) 48 0 (by rw [Vw.len ok]; decide)) ?_
  rw [hv]
  refine bnd_of (fill_walk ok) ?_
  have wok : (⟨v, none⟩ : Wk).ok := ⟨ok, fun c e => by cases e⟩
  refine nw hp (wkRow ⟨v, none⟩) ?_ fun wb h5 hp => ?_
  · show GObj.row _ (v.cells ++ [Value.nilIface]) (v.cells ++ [Value.nilIface]).length _ = _
    rw [List.length_append, Vw.len ok]; rfl
  (repeat first|refine wx ?_|refine wy ?_|refine wz ?_|refine wv ?_|refine wh ?_)
  refine nwst hp (.row 148 [ptr wb] 1 true) rfl rfl rfl rfl fun lb h6 hp => ?_
  replace hp := hp.re 5 [2, 0, 1, 3, 4]
  replace hp := hn hp
  (repeat first|refine wx ?_|refine wy ?_|refine wz ?_|refine wv ?_|refine wh ?_)
  have skOk := Wk.skip_ok wok (Op.may_sk m)
  have fin : ∀ (h7 : GH) (r : Answer × Wk), r = Wk.skip ⟨v, none⟩ o → All (pts wb (wkRow r.2) :: pts vb (vwRow v) :: pts rb (.row 71 askZ 50 true) :: R) h7 → T Tryz.prog 70 [ptr wb, ptr vb, ansV r.1] h7 (fun v19 h20 => bnd (stV 50 (ptr rb) v19 h20) fun h21 => bnd (ldV 50 true (ptr rb) h21) fun v22 => K (.tuple #[v22, i64 0]) h21) := by
    intro h7 r er hp
    have e : askOf v r = v.one o := by unfold Vw.one; rw [if_neg (by omega), er]; rfl
    refine T_wAsk hp (by rw [er]; exact skOk) ok fun u h9 hp => ?_
    rw [show (r.1, r.2) = r from rfl, e] at hp
    refine askP_open hp fun s eu hp => ?_
    have hs := rowP_one hp
    rw [eu]
    replace hp := hp.re 3 [2, 0]
    replace hp := hn hp
    refine retK (K := fun u h => K (.tuple #[u, i64 0]) h) hp (askC_len vwZ_ok) (Vw.one_ok ok m).1 hs.1 fun h10 hp => ?_
    exact hK _ _ (askP_mk hp)
  refine ifV_cases (fun c9 => ?_) fun c9 => ?_
  · replace c9 : o.kind = 9 := c9
    refine T_skCode ?_
    refine nwst hp (resRow (i64 2) (i64 0)) rfl rfl rfl rfl fun ab h7 hp => ?_
    refine la2 hp (c := [ptr wb]) (by simp) rfl ?_
    replace hp := hp.re 6 [3, 0, 5, 4]
    replace hp := hn hp
    have l0 : Lv (-1) 0 := by unfold Lv; omega
    refine T_sNext hp wok l0 fun h8 hp => ?_
    have es : Wk.skip ⟨v, none⟩ o = (if (Wk.next ⟨v, none⟩ (-1) 0).1 = -1 then ⟨2, 0⟩ else ⟨0, (Wk.next ⟨v, none⟩ (-1) 0).1⟩, (Wk.next ⟨v, none⟩ (-1) 0).2) := by unfold Wk.skip; rw [if_pos c9]
    generalize Wk.next ⟨v, none⟩ (-1) 0 = g at hp es
    replace hp := hp.up 1
    replace hp := hn hp
    (repeat first|refine wx ?_|refine wy ?_|refine wz ?_|refine wv ?_|refine wh ?_)
    refine ifN_cases (fun q => ?_) fun q => ?_
    · rw [if_neg q] at es
      refine T_skDone ?_
      refine st0 hp (resRow (i64 0) (i64 g.1)) rfl (by simp) rfl rfl fun h9 hp => ?_
      refine la0 hp (c := (⟨0, g.1⟩ : Answer).enc) (by simp) rfl ?_
      exact fin _ (⟨0, g.1⟩, g.2) es.symm (hp.re 4 [1, 2, 3])
    · rw [if_pos q] at es
      refine la0 hp (c := (⟨2, 0⟩ : Answer).enc) (by simp) rfl ?_
      exact fin _ (⟨2, 0⟩, g.2) es.symm (hp.re 4 [1, 2, 3])
  · replace c9 : ¬ o.kind = 9 := c9
    refine fun mb hb => ?_
    replace hp := hp.new (g := .obj (.map #[] 0)) hb
    generalize GW.upd h6 mb (.obj (.map #[] 0)) = h7 at hp ⊢
    refine mup0 hp #[⟨i64 6, .func (.func 71) #[] #[], 0⟩] rfl rfl fun h8 hp => ?_
    refine mup0 hp #[⟨i64 6, .func (.func 71) #[] #[], 0⟩, ⟨i64 7, .func (.func 72) #[] #[], 1⟩] rfl rfl fun h8 hp => ?_
    refine mup0 hp #[⟨i64 6, .func (.func 71) #[] #[], 0⟩, ⟨i64 7, .func (.func 72) #[] #[], 1⟩, ⟨i64 8, .func (.func 73) #[] #[], 2⟩] rfl rfl fun h8 hp => ?_
    refine mup0 hp skMap rfl rfl fun h8 hp => ?_
    (repeat first|refine wx ?_|refine wy ?_|refine wz ?_|refine wv ?_|refine wh ?_)
    have k11 := (Op.may_kind m).2
    have hkk : o.kind = 6 ∨ o.kind = 7 ∨ o.kind = 8 ∨ o.kind = 10 := by omega
    obtain ⟨F, i, hF⟩ : ∃ (F : FuncId) (i : Nat), Instr.findNow (.int .i64) (i64 o.kind) skMap.toList 0 = some (some (i, .func (.func F) #[] #[])) ∧ (o.kind = 6 → F = 71) ∧ (o.kind = 7 → F = 72) ∧ (o.kind = 8 → F = 73) ∧ (o.kind = 10 → F = 74) := by
      rcases hkk with e | e | e | e <;> rw [e]
      · exact ⟨_, _, rfl, fun _ => rfl, fun q => by omega, fun q => by omega, fun q => by omega⟩
      · exact ⟨_, _, rfl, fun q => by omega, fun _ => rfl, fun q => by omega, fun q => by omega⟩
      · exact ⟨_, _, rfl, fun q => by omega, fun q => by omega, fun _ => rfl, fun q => by omega⟩
      · exact ⟨_, _, rfl, fun q => by omega, fun q => by omega, fun q => by omega, fun _ => rfl⟩
    refine bnd_of (mlk_at hp.pt0 hF.1) ?_
    refine wK (ldV_agg (hp.pt (i := 2) rfl) 1 0 (by simp)) ?_
    (repeat first|refine wx ?_|refine wy ?_|refine wz ?_|refine wv ?_|refine wh ?_)
    replace hp := hp.re 6 [3, 0, 1, 5, 4]
    replace hp := hn hp
    refine T_sFind hp wok fun pb h9 hp => ?_
    have pl := Wk.place_ok wok (key := o.a)
    have es : ∀ hi lo, hi = Wk.before 7 ⟨v, none⟩ o.a (-1) 1 → lo = hi.2.before 7 o.a hi.1 0 → Wk.skip ⟨v, none⟩ o = (if o.kind = 8 then (⟨0, if (lo.2.next lo.1 0).1 = o.a then 1 else 0⟩, (lo.2.next lo.1 0).2) else if o.kind = 10 then (⟨0, ((lo.2.next lo.1 0).2.bits 7 (lo.2.next lo.1 0).1 o.b 0).1⟩, ((lo.2.next lo.1 0).2.bits 7 (lo.2.next lo.1 0).1 o.b 0).2) else if o.kind = 6 then (lo.2.next lo.1 0).2.insert o hi.1 lo.1 (lo.2.next lo.1 0).1 else (lo.2.next lo.1 0).2.erase o hi.1 lo.1 (lo.2.next lo.1 0).1) := by
      rintro hi lo rfl rfl
      unfold Wk.skip; rw [if_neg c9]
    replace es := es _ _ rfl rfl
    simp only at pl
    generalize Wk.before 7 ⟨v, none⟩ o.a (-1) 1 = hi at hp pl es
    generalize hi.2.before 7 o.a hi.1 0 = lo at hp pl es
    obtain ⟨p1, p2, p3, p4, p5⟩ := pl
    refine ⟨mlk_at (hp.pt (i := 2) rfl) hF.1, ?_⟩
    replace hp := hp.re 6 [0, 3, 1, 4, 5]
    replace hp := hn hp
    (repeat first|refine wx ?_|refine wy ?_|refine wz ?_|refine wv ?_|refine wh ?_)
    have la := Op.may_sk m
    have rest : ∀ (h7 : GH) (r : Answer × Wk), r = Wk.skip ⟨v, none⟩ o → All (pts wb (wkRow r.2) :: pts ob (opRow o) :: pts vb (vwRow v) :: pts rb (.row 71 askZ 50 true) :: R) h7 → newV 55 [i64 0, i64 0] h7 (fun v15 h16 => bnd (stV 2 v15 (ansV r.1) h16) fun h17 => bnd (ldV 2 true v15 h17) fun v18 => T Tryz.prog 70 [ptr wb, ptr vb, v18] h17 fun v19 h20 => bnd (stV 50 (ptr rb) v19 h20) fun h21 => bnd (ldV 50 true (ptr rb) h21) fun v22 => K (.tuple #[v22, i64 0]) h21) := by
      intro h7 r er hp
      refine nw hp (resRow (i64 0) (i64 0)) rfl fun ab h8 hp => ?_
      refine retA (K := fun v18 h17 => T Tryz.prog 70 [ptr wb, ptr vb, v18] h17 fun v19 h20 => bnd (stV 50 (ptr rb) v19 h20) fun h21 => bnd (ldV 50 true (ptr rb) h21) fun v22 => K (.tuple #[v22, i64 0]) h21) hp fun h9 hp => ?_
      exact fin _ r er (hp.re 4 [0, 2, 3])
    show T Tryz.prog F [ptr pb, ptr ob] h9 _
    rcases hkk with e | e | e | e
    · rw [if_neg (by omega), if_neg (by omega), if_pos e] at es
      rw [hF.2.1 e]
      exact T_sInsert hp p3 p1 p2 la fun h10 hp => rest _ _ es.symm hp
    · rw [if_neg (by omega), if_neg (by omega), if_neg (by omega)] at es
      rw [hF.2.2.1 e]
      exact T_sErase hp p3 p1 p2 la fun h10 hp => rest _ _ es.symm hp
    · rw [if_pos e] at es
      rw [hF.2.2.2.1 e]
      refine T_sFound hp fun h10 hp => ?_
      replace hp := hp.up 1
      replace hp := hn hp
      exact rest _ (⟨0, if (lo.2.next lo.1 0).1 = o.a then 1 else 0⟩, (lo.2.next lo.1 0).2) es.symm hp
    · rw [if_neg (by omega), if_pos e] at es
      rw [hF.2.2.2.2 e]
      exact T_sBits hp p3 ⟨p4, p5⟩ fun h10 hp => rest _ (⟨0, _⟩, _) es.symm hp
end
end Go.Proofs.YtlmafbdhhneokaaGreat
namespace Go.Proofs.YtlmafbdhhneokaaGreat
open Go GW Go.Proofs
attribute [local irreducible] bnd ldV stV ifV binV eqI
set_option linter.unusedVariables false
set_option linter.unusedSimpArgs false
section
variable {b c d rb pb ob : Nat} {v : Vw} {w : Wk} {R : List Part} {h : GH} {K : Value → GH → Prop} {o : Op}
theorem Vw.agg_take (ok : v.ok) : (v.cells.drop 0).take 48 = v.cells := by rw [List.drop_zero, ← Vw.len ok, List.take_length]
theorem askC_view {x : Int} {s : Value} (ok : v.ok) : ((askC x v s).drop 1).take 48 = v.cells := by
  show ((v.cells ++ [s]).take 48) = _
  rw [← Vw.len ok, List.take_left']; rfl
theorem askC_take {x : Int} {s : Value} (ok : v.ok) : ((askC x v s).drop 0).take 50 = askC x v s := by
  rw [List.drop_zero, ← askC_len (x := x) (s := s) ok, List.take_length]
theorem askC_ans {x : Int} {s : Value} (ok : v.ok) : (askC x v s)[49]? = some s := by
  show (v.cells ++ [s])[48]? = _
  exact Vw.cell_t ok
/-- a view that is laid down -/
theorem nwstView (hp : All R h) (ok : v.ok) {K : Value → GH → Prop} (k : ∀ b h', All (pts b (vwRow v) :: R) h' → K (ptr b) h') : newV 69 (List.replicate 16 (.bool false) ++ List.replicate 32 (i64 0)) h fun v2 h3 => bnd (stV 48 v2 (vwV v) h3) fun h4 => K v2 h4 := by
  refine nwst hp (vwRow v) ?_ (by simp) ?_ rfl k
  · show v.cells.toArray.size = 48
    rw [List.size_toArray, Vw.len ok]
  · show v.cells.toArray.toList.all oneCell = true
    rw [List.toList_toArray]; exact Vw.one_cells
theorem nwstAsk {x : Int} {s : Value} (hp : All R h) (ok : v.ok) (hs : oneCell s = true) {K : Value → GH → Prop} (k : ∀ b h', All (pts b (.row 71 (askC x v s) 50 true) :: R) h' → K (ptr b) h') : newV 71 ([i64 0] ++ List.replicate 16 (.bool false) ++ List.replicate 32 (i64 0) ++ [.slice none 0 0]) h fun v2 h3 => bnd (stV 50 v2 (askV x v s) h3) fun h4 => K v2 h4 := by
  have hl := askC_len (x := x) (s := s) ok
  refine nwst hp (.row 71 (askC x v s) 50 true) ?_ (by simp) ?_ rfl k
  · show (askC x v s).toArray.size = 50
    rw [List.size_toArray, hl]
  · show (askC x v s).toArray.toList.all oneCell = true
    simp only [askC, List.all_cons, List.all_append, List.all_nil, Bool.and_true, Vw.one_cells, hs]; rfl
theorem stView {b : Nat} {v' : Vw} (hp : All (pts b (vwRow v) :: R) h) (ok : v.ok) (ok' : v'.ok) {K : GH → Prop} (k : ∀ h', All (pts b (vwRow v') :: R) h' → K h') : bnd (stV 48 (ptr b) (vwV v') h) K := by
  refine st0 hp (vwRow v') ?_ (by rw [Vw.len ok]; decide) ?_ ?_ k
  · show v'.cells.toArray.size = 48
    rw [List.size_toArray, Vw.len ok']
  · show v'.cells.toArray.toList.all oneCell = true
    rw [List.toList_toArray]; exact Vw.one_cells
  · show GObj.row _ (setCells v.cells 0 v'.cells.toArray.toList) _ _ = _
    rw [setCells_all (by simp [Vw.len ok, Vw.len ok'])]; rfl
theorem T_bodyDo {sv : Value} {ops : List Op} (hp : All R h) (ok : v.ok) (hs : ∀ h', All R h' → rowsAt h' 4 sv (ops.map Op.enc)) (k0 : Txn.may ops = false → ∀ h', All R h' → K (.tuple #[askV 0 vwZ (.slice none 0 0), i64 700]) h')
    (hK : Txn.may ops = true → ∀ u h', All (askP (v.do_ ops) u :: R) h' → K (.tuple #[u, i64 0]) h') : T Tryz.prog 24 [vwV v, sv] h K := by
  apply S24_T
  unfold S24
  refine nwView hp ok fun vb h1 hp => ?_
  refine nw hp (.row 71 askZ 50 true) rfl fun rb h2 hp => ?_
  replace hp := hp.up 1
  replace hp := hn hp
  refine T_cViewMay hp ok ?_
  (repeat first|refine wx ?_|refine wy ?_|refine wz ?_|refine wv ?_|refine wh ?_)
  refine T_OpsMay (hs _ hp.tail.tail) ?_
  cases hm : Txn.may ops with
  | false =>
    (repeat first|refine wx ?_|refine wy ?_|refine wz ?_|refine wv ?_|refine wh ?_)
    replace hp := hp.re 2 [1]
    replace hp := hn hp
    refine retK (x := 0) (v := vwZ) (s := .slice none 0 0) (K := fun u h => K (.tuple #[u, i64 700]) h) hp (askC_len vwZ_ok) vwZ_ok rfl fun h3 hp => ?_
    exact k0 hm _ hp
  | true =>
    replace hK := hK hm
    (repeat first|refine wx ?_|refine wy ?_|refine wz ?_|refine wv ?_|refine wh ?_)
    unfold S24_j1
    refine la0 hp (c := v.cells) (by rw [Vw.len ok]; decide) (Vw.agg_take ok) ?_
    refine nwstView hp ok fun wb h3 hp => ?_
    have hsr := hs _ hp.tail.tail.tail
    have hlen : lnV sv = some (i64 ops.length) := by have := hsr.len; rw [List.length_map] at this; exact this
    refine bnd_of hlen ?_
    have hall : ∀ o ∈ ops, o.may = true := by
      unfold Txn.may at hm
      simp only [Bool.and_eq_true, List.all_eq_true] at hm
      exact hm.1
    have hl2 : ops.length ≤ 2 := by
      unfold Txn.may at hm
      simp only [Bool.and_eq_true, decide_eq_true_eq] at hm
      omega
    replace hp := hp.emp_cons (rowP_nil 2 (fun _ => none))
    generalize hr : v.do_ ops = r at hK
    refine Lfp_fam (ι := Nat × Vw × List Answer × Value) (fun p => [ptr vb, ptr rb, ptr wb, p.2.2.2, sv, i64 ops.length, i64 p.1]) (fun p h' => p.1 ≤ ops.length ∧ p.2.2.1.length ≤ p.1 ∧ p.2.1.ok ∧ v.doFrom (ops.drop p.1) p.2.1 p.2.2.1 = r ∧ All (rowP 2 p.2.2.2 (p.2.2.1.map Answer.enc) :: pts wb (vwRow p.2.1) :: pts vb (vwRow v) :: pts rb (.row 71 askZ 50 true) :: R) h') (fun p => ops.length - p.1) ?_ (0, v, [], .slice none 0 0) h3 ⟨by omega, by simp, ok, hr, hp⟩
    clear hp
    rintro ⟨i, wv, rs, av⟩ h4 X ⟨hi, hrl, wok, hd, hp⟩ again
    simp only at hi hrl wok hd hp
    simp only [tup_zero, tup_succ]
    have hss := hs _ hp.tail.tail.tail.tail
    have has := rowP_one hp
    (repeat first|refine wx ?_|refine wy ?_|refine wz ?_|refine wv ?_|refine wh ?_)
    refine ifV_cases (fun q => ?_) fun q => ?_
    · obtain ⟨o, ho⟩ : ∃ o, ops[i]? = some o := ⟨_, List.getElem?_eq_getElem (by omega)⟩
      have om := hall o (List.mem_of_getElem? ho)
      have hoe : (ops.map Op.enc)[i]? = some o.enc := by rw [List.getElem?_map, ho]; rfl
      obtain ⟨p, e1, e2⟩ := hss.get hoe .i64
      have ed : ops.drop i = o :: ops.drop (i + 1) := by
        rw [List.drop_eq_getElem_cons (by omega)]
        congr 1
        rw [List.getElem?_eq_getElem (by omega)] at ho; exact Option.some.inj ho
      rw [ed] at hd
      unfold Vw.doFrom at hd
      refine bnd_of e1 (bnd_of e2 ?_)
      refine nwst hp (opRow o) rfl rfl rfl rfl fun ob h5 hp => ?_
      (repeat first|refine wx ?_|refine wy ?_|refine wz ?_|refine wv ?_|refine wh ?_)
      refine T_cOfBank (Op.may_kind om).1 ?_
      have j2 : ∀ F : FuncId, (∀ {K' : Value → GH → Prop} {h'}, All (rowP 2 av (rs.map Answer.enc) :: pts wb (vwRow wv) :: pts vb (vwRow v) :: pts rb (.row 71 askZ 50 true) :: R) h' → (∀ u h', All (askP (wv.one o) u :: rowP 2 av (rs.map Answer.enc) :: pts wb (vwRow wv) :: pts vb (vwRow v) :: pts rb (.row 71 askZ 50 true) :: R) h' → K' (.tuple #[u, i64 0]) h') → T Tryz.prog F [vwV wv, .agg o.enc.toArray] h' K') → ∀ s1, S24_j2 s1 (ptr vb) (ptr rb) (ptr wb) av (ptr ob) (.func (.func F) #[] #[]) sv (i64 ops.length) (i64 i) h5 K X := by
        intro F hF s1
        unfold S24_j2
        replace hp := hp.re 5 [2, 0, 1, 3, 4]
        replace hp := hn hp
        refine la0 hp (c := wv.cells) (by rw [Vw.len wok]; decide) (Vw.agg_take wok) ?_
        refine la1 hp (c := o.enc) (by simp [opRow, Op.enc]) rfl ?_
        show T Tryz.prog F [vwV wv, .agg o.enc.toArray] h5 _
        replace hp := hp.re 5 [2, 0, 3, 4]
        replace hp := hn hp
        refine hF hp fun u h6 hp => ?_
        obtain ⟨vok, nok, aok⟩ := Vw.one_ok wok om
        generalize wv.one o = m at hp hd vok nok aok
        obtain ⟨mn, mv, ma⟩ := m
        simp only at vok nok aok hd
        refine askP_open hp fun s eu hp => ?_
        have hs1 := rowP_one hp
        rw [eu]
        (repeat first|refine wx ?_|refine wy ?_|refine wz ?_|refine wv ?_|refine wh ?_)
        refine nwstAsk hp vok hs1.1 fun kb h7 hp => ?_
        (repeat first|refine wx ?_|refine wy ?_|refine wz ?_|refine wv ?_|refine wh ?_)
        cases mn with
        | some cc =>
          have := nok cc rfl
          refine ifV_p this.1 ?_
          (repeat first|refine wx ?_|refine wy ?_|refine wz ?_|refine wv ?_|refine wh ?_)
          replace hp := hp.re 6 [4, 5]
          replace hp := hn hp
          refine la0 hp (c := v.cells) (by rw [Vw.len ok]; decide) (Vw.agg_take ok) ?_
          refine wK (fill_ask2 (x := cc) ok) ?_
          replace hp := hp.up 1
          replace hp := hn hp
          simp only at hd
          subst hd
          refine retK (K := fun u h => K (.tuple #[u, i64 0]) h) hp (askC_len vwZ_ok) ok rfl fun h8 hp => ?_
          exact hK _ _ (askP_mk (m := ⟨some cc, v, []⟩) (hp.tail.emp_cons (rowP_nil 2 _)))
        | none =>
          obtain ⟨a, rfl⟩ := aok rfl
          refine ifV_n (by show ¬ (0 : Int) ≤ -1; decide) ?_
          refine bnd_of rfl ?_
          refine ld0 hp (askC_ans vok) ?_
          have hrow := All.rows (hp.up 1)
          replace hp := hp.re 3 [2, 0]
          replace hp := hn hp
          refine ap0 hp hrow (Answer.all_good [a]) (by decide) (by simp only [List.length_map, List.length_cons, List.length_nil]; omega) fun av' h8 hp => ?_
          rw [← List.map_append] at hp
          have hln := All.len hp
          rw [List.length_map, List.length_append, List.length_singleton] at hln
          refine bnd_of hln ?_
          (repeat first|refine wx ?_|refine wy ?_|refine wz ?_|refine wv ?_|refine wh ?_)
          have hae : ((rs ++ [a]).map Answer.enc)[rs.length]? = some a.enc := by rw [List.getElem?_map, List.getElem?_append_right (Nat.le_refl _), Nat.sub_self]; rfl
          obtain ⟨bb, i1, i2, i3, i4⟩ := hp.elt hae .i64
          refine wK (o := isV 2 av' (i64 (((rs.length + 1 : Nat) : Int) - 1))) (by rw [show ((rs.length + 1 : Nat) : Int) - 1 = (rs.length : Int) by omega]; exact i1) ?_
          (repeat first|refine wx ?_|refine wy ?_|refine wz ?_|refine wv ?_|refine wh ?_)
          refine wK (i2 0 1 _ rfl) ?_
          (repeat first|refine wx ?_|refine wy ?_|refine wz ?_|refine wv ?_|refine wh ?_)
          refine ifN_cases (fun qc => ?_) fun qc => ?_
          · simp only [List.map_cons, List.map_nil] at hd
            rw [if_neg (by intro e; exact qc (by simpa using e))] at hd
            subst hd
            replace hp := hp.re 5 [3, 0, 4]
            replace hp := hn hp
            refine la0 hp (c := v.cells) (by rw [Vw.len ok]; decide) (Vw.agg_take ok) ?_
            have hs2 := rowP_one (hp.up 1)
            refine wK (fill_ask3 (x := -1) ok hs2.2) ?_
            replace hp := hp.re 3 [2, 1]
            replace hp := hn hp
            refine retK (K := fun u h => K (.tuple #[u, i64 0]) h) hp (askC_len vwZ_ok) ok hs2.1 fun h9 hp => ?_
            exact hK _ _ (askP_mk (m := ⟨none, v, rs ++ [a]⟩) hp)
          · simp only [List.map_cons, List.map_nil] at hd
            rw [if_pos (by rw [qc])] at hd
            refine bnd_of rfl ?_
            refine la1 hp (c := mv.cells) (by rw [askC_len vok]; decide) (askC_view vok) ?_
            replace hp := hp.re 5 [2, 0, 3, 4]
            replace hp := hn hp
            refine stView hp wok vok fun h9 hp => ?_
            (repeat first|refine wx ?_|refine wy ?_|refine wz ?_|refine wv ?_|refine wh ?_)
            replace hp := hp.up 1
            replace hp := hn hp
            exact again (i + 1, mv, rs ++ [a], av') _ ⟨by simp only; omega, by simp only [List.length_append, List.length_singleton]; omega, vok, hd, hp⟩ (by simp only; omega)
      refine ifV_cases (fun qk => ?_) fun qk => ?_
      · exact j2 53 (fun hp hK => T_bankDo hp wok om qk hK) _
      · exact j2 51 (fun hp hK => T_skipDo hp wok om (by replace qk : ¬ o.kind ≤ 5 := qk; omega) hK) _
    · rw [List.drop_eq_nil_of_le (by omega)] at hd
      unfold Vw.doFrom at hd
      subst hd
      refine la1 hp (c := wv.cells) (by rw [Vw.len wok]; decide) (Vw.agg_take wok) ?_
      refine wK (fill_ask3 (x := -1) wok has.2) ?_
      replace hp := hp.re 4 [3, 0]
      replace hp := hn hp
      refine retK (K := fun u h => K (.tuple #[u, i64 0]) h) hp (askC_len vwZ_ok) wok has.1 fun h9 hp => ?_
      exact hK _ _ (askP_mk (m := ⟨none, wv, rs⟩) hp)
end
end Go.Proofs.YtlmafbdhhneokaaGreat
namespace Go.Proofs.YtlmafbdhhneokaaGreat
open Go GW Go.Proofs
attribute [local irreducible] bnd ldV stV ifV binV eqI
set_option linter.unusedVariables false
set_option linter.unusedSimpArgs false
section
variable {b c d rb pb ob : Nat} {v : Vw} {w : Wk} {R : List Part} {h : GH} {K : Value → GH → Prop} {o : Op}
set_option maxHeartbeats 1000000 in
theorem T_rBank (hp : All (pts b (rwkRow w) :: R) h) (ok : w.ok) (m : o.may = true) (hk : o.kind ≤ 5) (hK : ∀ h', All (pts b (rwkRow (w.bank o).2) :: R) h' → K (ansV (w.bank o).1) h') : T Tryz.prog 88 [ptr b, .agg o.enc.toArray] h K := by
  apply S88_T
  unfold S88
  have k0 := (Op.may_kind m).1
  have ho := Op.may_bk m hk
  clear m
  obtain ⟨kd, oa, ob_, ox⟩ := o
  obtain ⟨⟨a0, a1⟩, ⟨b0, b1⟩, x0, x1⟩ := ho
  simp only at hk k0 a0 a1 b0 b1 x0 x1
  refine nw hp (opRow ⟨kd, oa, ob_, ox⟩) rfl fun vb h1 hp => ?_
  refine nw hp (resRow (i64 0) (i64 0)) rfl fun rb h2 hp => ?_
  unfold Wk.bank at hK
  simp only at hK
  (repeat first|refine wx ?_|refine wy ?_|refine wz ?_|refine wv ?_|refine wh ?_)
  refine ifV_cases (fun c5 => ?_) fun c5 => ?_
  · replace c5 : kd = 5 := c5
    rw [if_pos c5] at hK
    generalize hr : w.sum 4 0 0 = r at hK
    replace hp := hp.re 3 [0, 2]
    replace hp := Go.Proofs.YtlmafbdhhneokaaGreat.hn hp
    refine Lfp_fam (ι := Nat × Wk × Int) (fun p => [ptr b, ptr rb, i64 p.2.2, i64 p.1]) (fun p h' => p.1 ≤ 4 ∧ p.2.1.ok ∧ 0 ≤ p.2.2 ∧ p.2.2 ≤ p.1 * 1099511627776 ∧ p.2.1.sum (4 - p.1) p.1 p.2.2 = r ∧ All (pts rb (resRow (i64 0) (i64 0)) :: pts b (rwkRow p.2.1) :: R) h') (fun p => 4 - p.1) ?_ (0, w, 0) h2 ⟨by simp, ok, by simp, by simp, hr, hp⟩
    rintro ⟨i, w1, all⟩ h3 X ⟨hi, ok1, s0, s1, hb, hp⟩ again
    simp only at hi ok1 s0 s1 hb hp
    simp only [tup_zero, tup_succ]
    (repeat first|refine wx ?_|refine wy ?_|refine wz ?_|refine wv ?_|refine wh ?_)
    refine ifV_cases (fun c => ?_) fun c => ?_
    · obtain ⟨n, hn⟩ : ∃ n, 4 - i = n + 1 := ⟨3 - i, by omega⟩
      rw [hn] at hb
      unfold Wk.sum at hb
      have g := Wk.get_ok ok1 (c := i) (by omega) (by omega)
      replace hp := hp.up 1
      replace hp := Go.Proofs.YtlmafbdhhneokaaGreat.hn hp
      refine T_rGet hp ok1 (by omega) (by omega) fun h4 hp => ?_
      obtain ⟨g0, g1, g2⟩ := g
      have em : 4 - (i + 1) = n := by omega
      generalize w1.get (i : Int) = g at hp hb g0 g1 g2
      (repeat first|refine wx ?_|refine wy ?_|refine wz ?_|refine wv ?_|refine wh ?_)
      have emax : (if 0 < g.1 - 1 then g.1 - 1 else 0) = max 0 (g.1 - 1) := by split <;> omega
      show X (tup [ptr b, ptr rb, i64 (all + (if 0 < g.1 - 1 then g.1 - 1 else 0)), i64 ((i : Int) + 1)]) h4
      rw [emax]
      replace hp := hp.up 1
      replace hp := Go.Proofs.YtlmafbdhhneokaaGreat.hn hp
      exact again (i + 1, g.2, all + max 0 (g.1 - 1)) _ ⟨by simp only; omega, g0, by simp only; omega, by simp only; omega, by simp only [em]; exact_mod_cast hb, hp⟩ (by simp only; omega)
    · rw [show 4 - i = 0 by omega] at hb
      subst hb
      refine T_rfDone ?_
      refine retA hp fun h4 hp => ?_
      exact hK _ hp
  · replace c5 : ¬ kd = 5 := c5
    rw [if_neg c5] at hK
    (repeat first|refine wx ?_|refine wy ?_|refine wz ?_|refine wv ?_|refine wh ?_)
    have g := Wk.get_ok ok a0 (by omega : oa < 16)
    replace hp := hp.up 2
    replace hp := Go.Proofs.YtlmafbdhhneokaaGreat.hn hp
    refine T_rGet hp ok a0 (by (first | omega | (simp only; omega))) fun h3 hp => ?_
    obtain ⟨g0, g1, g2⟩ := g
    generalize w.get oa = g at hp hK g0 g1 g2
    replace hp := hp.re 3 [1, 2, 0]
    replace hp := Go.Proofs.YtlmafbdhhneokaaGreat.hn hp
    (repeat first|refine wx ?_|refine wy ?_|refine wz ?_|refine wv ?_|refine wh ?_)
    refine ifV_cases (fun c0 => ?_) fun c0 => ?_
    · replace c0 : kd = 0 := c0
      rw [if_pos c0] at hK
      (repeat first|refine wx ?_|refine wy ?_|refine wz ?_|refine wv ?_|refine wh ?_)
      refine ifV_cases (fun q => ?_) fun q => ?_
      · replace q : 0 < g.1 := q
        rw [if_pos q] at hK
        refine T_rfCode ?_
        replace hp := hp.re 3 [0, 2]
        replace hp := Go.Proofs.YtlmafbdhhneokaaGreat.hn hp
        exact retA hp hK
      · replace q : ¬ 0 < g.1 := q
        rw [if_neg q] at hK
        (repeat first|refine wx ?_|refine wy ?_|refine wz ?_|refine wv ?_|refine wh ?_)
        replace hp := hp.up 2
        replace hp := Go.Proofs.YtlmafbdhhneokaaGreat.hn hp
        refine T_rSet hp g0 a0 (by (first | omega | (simp only; omega))) fun h4 hp => ?_
        replace hp := hp.re 3 [1, 2, 0]
        replace hp := Go.Proofs.YtlmafbdhhneokaaGreat.hn hp
        (repeat first|refine wx ?_|refine wy ?_|refine wz ?_|refine wv ?_|refine wh ?_)
        refine T_rfDone ?_
        replace hp := hp.re 3 [0, 2]
        replace hp := Go.Proofs.YtlmafbdhhneokaaGreat.hn hp
        refine retA hp fun h5 hp => ?_
        rw [show 1 + ox = ox + 1 by omega] at hp
        exact hK _ hp
    · replace c0 : ¬ kd = 0 := c0
      rw [if_neg c0] at hK
      (repeat first|refine wx ?_|refine wy ?_|refine wz ?_|refine wv ?_|refine wh ?_)
      -- behind both reads
      have j2 : ∀ (h4 : GH) (k : Int × Wk), k.2.ok → 0 ≤ k.1 → k.1 < 1099511627776 → 0 < g.1 → 0 < k.1 → All (pts rb (resRow (i64 0) (i64 0)) :: pts vb (opRow ⟨kd, oa, ob_, ox⟩) :: pts b (rwkRow k.2) :: R) h4 →
          (∀ h', All (pts b (rwkRow (if kd = 1 then ((⟨0, g.1 - 1⟩ : Answer), k.2.set oa 0) else if kd = 2 then (if 1048575 < g.1 - 1 + ox then (⟨4, 0⟩, k.2) else (⟨0, g.1 - 1 + ox⟩, k.2.set oa (g.1 - 1 + ox + 1))) else if g.1 - 1 < ox then (⟨3, 0⟩, k.2) else if kd = 3 then (⟨0, g.1 - 1 - ox⟩, k.2.set oa (g.1 - 1 - ox + 1)) else if oa = ob_ then (⟨0, g.1 - 1⟩, k.2) else if 1048575 < k.1 - 1 + ox then (⟨4, 0⟩, k.2) else (⟨0, g.1 - 1 - ox⟩, (k.2.set oa (g.1 - 1 - ox + 1)).set ob_ (k.1 - 1 + ox + 1))).2) :: R) h' → K (ansV (if kd = 1 then ((⟨0, g.1 - 1⟩ : Answer), k.2.set oa 0) else if kd = 2 then (if 1048575 < g.1 - 1 + ox then (⟨4, 0⟩, k.2) else (⟨0, g.1 - 1 + ox⟩, k.2.set oa (g.1 - 1 + ox + 1))) else if g.1 - 1 < ox then (⟨3, 0⟩, k.2) else if kd = 3 then (⟨0, g.1 - 1 - ox⟩, k.2.set oa (g.1 - 1 - ox + 1)) else if oa = ob_ then (⟨0, g.1 - 1⟩, k.2) else if 1048575 < k.1 - 1 + ox then (⟨4, 0⟩, k.2) else (⟨0, g.1 - 1 - ox⟩, (k.2.set oa (g.1 - 1 - ox + 1)).set ob_ (k.1 - 1 + ox + 1))).1) h') →
          S88_j2 (ptr b) (ptr vb) (ptr rb) (i64 g.1) (i64 k.1) h4 K := by
        intro h4 k kok k1 k2 gpos kpos hp hK
        unfold S88_j2
        (repeat first|refine wx ?_|refine wy ?_|refine wz ?_|refine wv ?_|refine wh ?_)
        refine ifV_cases (fun q => ?_) fun q => ?_
        · replace q : kd = 1 := q
          rw [if_pos q] at hK
          (repeat first|refine wx ?_|refine wy ?_|refine wz ?_|refine wv ?_|refine wh ?_)
          replace hp := hp.up 2
          replace hp := Go.Proofs.YtlmafbdhhneokaaGreat.hn hp
          refine T_rSet hp kok a0 (by (first | omega | (simp only; omega))) fun h5 hp => ?_
          refine T_rfDone ?_
          replace hp := hp.re 3 [1, 0]
          replace hp := Go.Proofs.YtlmafbdhhneokaaGreat.hn hp
          exact retA hp hK
        · replace q : ¬ kd = 1 := q
          rw [if_neg q] at hK
          (repeat first|refine wx ?_|refine wy ?_|refine wz ?_|refine wv ?_|refine wh ?_)
          refine ifV_cases (fun q2 => ?_) fun q2 => ?_
          · replace q2 : kd = 2 := q2
            rw [if_pos q2] at hK
            (repeat first|refine wx ?_|refine wy ?_|refine wz ?_|refine wv ?_|refine wh ?_)
            refine ifV_cases (fun q3 => ?_) fun q3 => ?_
            · replace q3 : 1048575 < g.1 - 1 + ox := q3
              rw [if_pos q3] at hK
              refine T_rfCode ?_
              replace hp := hp.re 3 [0, 2]
              replace hp := Go.Proofs.YtlmafbdhhneokaaGreat.hn hp
              exact retA hp hK
            · replace q3 : ¬ 1048575 < g.1 - 1 + ox := q3
              rw [if_neg q3] at hK
              (repeat first|refine wx ?_|refine wy ?_|refine wz ?_|refine wv ?_|refine wh ?_)
              replace hp := hp.up 2
              replace hp := Go.Proofs.YtlmafbdhhneokaaGreat.hn hp
              refine T_rSet hp kok a0 (by (first | omega | (simp only; omega))) fun h5 hp => ?_
              replace hp := hp.re 3 [1, 2, 0]
              replace hp := Go.Proofs.YtlmafbdhhneokaaGreat.hn hp
              (repeat first|refine wx ?_|refine wy ?_|refine wz ?_|refine wv ?_|refine wh ?_)
              refine T_rfDone ?_
              replace hp := hp.re 3 [0, 2]
              replace hp := Go.Proofs.YtlmafbdhhneokaaGreat.hn hp
              exact retA hp hK
          · replace q2 : ¬ kd = 2 := q2
            rw [if_neg q2] at hK
            (repeat first|refine wx ?_|refine wy ?_|refine wz ?_|refine wv ?_|refine wh ?_)
            refine ifV_cases (fun q3 => ?_) fun q3 => ?_
            · replace q3 : g.1 - 1 < ox := q3
              rw [if_pos q3] at hK
              refine T_rfCode ?_
              replace hp := hp.re 3 [0, 2]
              replace hp := Go.Proofs.YtlmafbdhhneokaaGreat.hn hp
              exact retA hp hK
            · replace q3 : ¬ g.1 - 1 < ox := q3
              rw [if_neg q3] at hK
              (repeat first|refine wx ?_|refine wy ?_|refine wz ?_|refine wv ?_|refine wh ?_)
              refine ifV_cases (fun q4 => ?_) fun q4 => ?_
              · replace q4 : kd = 3 := q4
                rw [if_pos q4] at hK
                (repeat first|refine wx ?_|refine wy ?_|refine wz ?_|refine wv ?_|refine wh ?_)
                replace hp := hp.up 2
                replace hp := Go.Proofs.YtlmafbdhhneokaaGreat.hn hp
                refine T_rSet hp kok a0 (by (first | omega | (simp only; omega))) fun h5 hp => ?_
                replace hp := hp.re 3 [1, 2, 0]
                replace hp := Go.Proofs.YtlmafbdhhneokaaGreat.hn hp
                (repeat first|refine wx ?_|refine wy ?_|refine wz ?_|refine wv ?_|refine wh ?_)
                refine T_rfDone ?_
                replace hp := hp.re 3 [0, 2]
                replace hp := Go.Proofs.YtlmafbdhhneokaaGreat.hn hp
                exact retA hp hK
              · replace q4 : ¬ kd = 3 := q4
                rw [if_neg q4] at hK
                (repeat first|refine wx ?_|refine wy ?_|refine wz ?_|refine wv ?_|refine wh ?_)
                refine ifV_cases (fun q5 => ?_) fun q5 => ?_
                · replace q5 : oa = ob_ := q5
                  rw [if_pos q5] at hK
                  refine T_rfDone ?_
                  replace hp := hp.re 3 [0, 2]
                  replace hp := Go.Proofs.YtlmafbdhhneokaaGreat.hn hp
                  exact retA hp hK
                · replace q5 : ¬ oa = ob_ := q5
                  rw [if_neg q5] at hK
                  (repeat first|refine wx ?_|refine wy ?_|refine wz ?_|refine wv ?_|refine wh ?_)
                  refine ifV_cases (fun q6 => ?_) fun q6 => ?_
                  · replace q6 : 1048575 < k.1 - 1 + ox := q6
                    rw [if_pos q6] at hK
                    refine T_rfCode ?_
                    replace hp := hp.re 3 [0, 2]
                    replace hp := Go.Proofs.YtlmafbdhhneokaaGreat.hn hp
                    exact retA hp hK
                  · replace q6 : ¬ 1048575 < k.1 - 1 + ox := q6
                    rw [if_neg q6] at hK
                    (repeat first|refine wx ?_|refine wy ?_|refine wz ?_|refine wv ?_|refine wh ?_)
                    replace hp := hp.up 2
                    replace hp := Go.Proofs.YtlmafbdhhneokaaGreat.hn hp
                    refine T_rSet hp kok a0 (by (first | omega | (simp only; omega))) fun h5 hp => ?_
                    replace hp := hp.re 3 [1, 2, 0]
                    replace hp := Go.Proofs.YtlmafbdhhneokaaGreat.hn hp
                    (repeat first|refine wx ?_|refine wy ?_|refine wz ?_|refine wv ?_|refine wh ?_)
                    replace hp := hp.up 2
                    replace hp := Go.Proofs.YtlmafbdhhneokaaGreat.hn hp
                    refine T_rSet hp (Wk.set_ok kok _ (by constructor <;> (first | omega | (simp only; omega)))) b0 (by (first | omega | (simp only; omega))) fun h6 hp => ?_
                    replace hp := hp.re 3 [1, 2, 0]
                    replace hp := Go.Proofs.YtlmafbdhhneokaaGreat.hn hp
                    (repeat first|refine wx ?_|refine wy ?_|refine wz ?_|refine wv ?_|refine wh ?_)
                    refine T_rfDone ?_
                    replace hp := hp.re 3 [0, 2]
                    replace hp := Go.Proofs.YtlmafbdhhneokaaGreat.hn hp
                    exact retA hp hK
      refine ifV_cases (fun c4 => ?_) fun c4 => ?_
      · replace c4 : kd = 4 := c4
        rw [if_pos c4] at hK
        (repeat first|refine wx ?_|refine wy ?_|refine wz ?_|refine wv ?_|refine wh ?_)
        have k := Wk.get_ok g0 b0 (by omega : ob_ < 16)
        replace hp := hp.up 2
        replace hp := Go.Proofs.YtlmafbdhhneokaaGreat.hn hp
        refine T_rGet hp g0 b0 (by (first | omega | (simp only; omega))) fun h4 hp => ?_
        obtain ⟨k0', k1, k2⟩ := k
        generalize g.2.get ob_ = k at hp hK k0' k1 k2
        replace hp := hp.re 3 [1, 2, 0]
        replace hp := Go.Proofs.YtlmafbdhhneokaaGreat.hn hp
        unfold S88_j1
        (repeat first|refine wx ?_|refine wy ?_|refine wz ?_|refine wv ?_|refine wh ?_)
        refine ifV_cases (fun q => ?_) fun q => ?_
        · replace q : g.1 = 0 := q
          rw [if_pos (.inl q)] at hK
          refine T_rfCode ?_
          replace hp := hp.re 3 [0, 2]
          replace hp := Go.Proofs.YtlmafbdhhneokaaGreat.hn hp
          exact retA hp hK
        · replace q : ¬ g.1 = 0 := q
          (repeat first|refine wx ?_|refine wy ?_|refine wz ?_|refine wv ?_|refine wh ?_)
          refine ifV_cases (fun q2 => ?_) fun q2 => ?_
          · replace q2 : k.1 = 0 := q2
            rw [if_pos (.inr q2)] at hK
            refine T_rfCode ?_
            replace hp := hp.re 3 [0, 2]
            replace hp := Go.Proofs.YtlmafbdhhneokaaGreat.hn hp
            exact retA hp hK
          · replace q2 : ¬ k.1 = 0 := q2
            rw [if_neg (by omega)] at hK
            refine j2 _ k k0' k1 k2 (by omega) (by omega) hp fun h5 hp => ?_
            rw [if_neg (by omega), if_neg (by omega)] at hp ⊢
            have ec : (k.2.set oa (g.1 - 1 - ox + 1)).set ob_ (k.1 - 1 + ox + 1) = (k.2.set ob_ (k.1 - 1 + ox + 1)).set oa (g.1 - 1 - ox + 1) ∨ oa = ob_ := by
              by_cases e : oa = ob_
              · exact .inr e
              · left
                unfold Wk.set
                cases hn : k.2.need with
                | some c => simp [hn]
                | none =>
                  simp only [Option.isSome_none, Bool.false_eq_true, if_false]
                  congr 2
                  rw [List.set_comm]
                  intro e2; exact e (by omega)
            rw [if_neg (show ¬ kd = 3 by omega)] at hp ⊢
            rcases ec with ec | ec
            · rw [ec] at hp
              have := hK _ hp
              rw [ec]; exact this
            · rw [if_pos ec] at hK hp ⊢
              exact hK _ hp
      · replace c4 : ¬ kd = 4 := c4
        rw [if_neg c4] at hK
        unfold S88_j1
        (repeat first|refine wx ?_|refine wy ?_|refine wz ?_|refine wv ?_|refine wh ?_)
        refine ifV_cases (fun q => ?_) fun q => ?_
        · replace q : g.1 = 0 := q
          rw [if_pos q] at hK
          refine T_rfCode ?_
          replace hp := hp.re 3 [0, 2]
          replace hp := Go.Proofs.YtlmafbdhhneokaaGreat.hn hp
          exact retA hp hK
        · replace q : ¬ g.1 = 0 := q
          rw [if_neg q] at hK
          (repeat first|refine wx ?_|refine wy ?_|refine wz ?_|refine wv ?_|refine wh ?_)
          refine j2 _ (1, g.2) g0 (by (first | omega | (simp only; omega))) (by (first | omega | (simp only; omega))) (by omega) (by (first | omega | (simp only; omega))) hp fun h5 hp => ?_
          by_cases q1 : kd = 1
          · rw [if_pos q1] at hp hK ⊢
            exact hK _ hp
          · by_cases q2 : kd = 2
            · rw [if_neg q1, if_pos q2] at hp hK ⊢
              exact hK _ hp
            · rw [if_neg q1, if_neg q2, if_pos (show kd = 3 by omega)] at hp ⊢
              rw [if_neg q1, if_neg q2] at hK
              exact hK _ hp
end
end Go.Proofs.YtlmafbdhhneokaaGreat
namespace Go.Proofs.YtlmafbdhhneokaaGreat
open Go GW Go.Proofs
attribute [local irreducible] bnd ldV stV ifV binV eqI
set_option linter.unusedVariables false
set_option linter.unusedSimpArgs false
section
variable {b c d rb pb ob : Nat} {v : Vw} {w : Wk} {R : List Part} {h : GH} {K : Value → GH → Prop} {o : Op}
theorem cv_u64 {x : Int} (h0 : 0 ≤ x) (h1 : x < 1000) : cvV .u64 (i64 x) = some (.int .u64 x) := by
  have : IntKind.u64.wrap x = x := by
    unfold IntKind.wrap; simp [IntKind.bits, IntKind.signed]; omega
  simp only [cvV, this]
set_option maxHeartbeats 1000000 in
theorem T_rSkip (hp : All (pts b (rwkRow w) :: R) h) (ok : w.ok) (m : o.may = true) (hk : 5 < o.kind) (hK : ∀ h', All (pts b (rwkRow (w.skip o).2) :: R) h' → K (ansV (w.skip o).1) h') : T Tryz.prog 89 [ptr b, .agg o.enc.toArray] h K := by
  apply S89_T
  unfold S89
  have k11 := (Op.may_kind m).2
  have la := Op.may_sk m
  clear m
  obtain ⟨kd, oa, ob_, ox⟩ := o
  simp only at hk k11 la
  refine nw hp (opRow ⟨kd, oa, ob_, ox⟩) rfl fun vb h1 hp => ?_
  refine nw hp (resRow (i64 0) (i64 0)) rfl fun rb h2 hp => ?_
  unfold Wk.skip at hK
  simp only at hK
  have l0 : Lv oa 0 := ⟨by omega, la.2, by decide, by decide⟩
  have l1 : Lv oa 1 := ⟨by omega, la.2, by decide, by decide⟩
  have lm0 : Lv (-1) 0 := by unfold Lv; omega
  have lm1 : Lv (-1) 1 := by unfold Lv; omega
  (repeat first|refine wx ?_|refine wy ?_|refine wz ?_|refine wv ?_|refine wh ?_)
  refine ifV_cases (fun c9 => ?_) fun c9 => ?_
  · replace c9 : kd = 9 := c9
    rw [if_pos c9] at hK
    replace hp := hp.up 2
    replace hp := Go.Proofs.YtlmafbdhhneokaaGreat.hn hp
    have gk := Wk.next_ok ok lm0
    refine T_rNext hp ok lm0 fun h3 hp => ?_
    generalize w.next (-1) 0 = g at hp hK gk
    replace hp := hp.re 3 [1, 0]
    replace hp := Go.Proofs.YtlmafbdhhneokaaGreat.hn hp
    (repeat first|refine wx ?_|refine wy ?_|refine wz ?_|refine wv ?_|refine wh ?_)
    refine ifV_cases (fun q => ?_) fun q => ?_
    · replace q : g.1 < 0 := q
      rw [if_pos (by omega)] at hK
      refine T_rfCode ?_
      exact retA hp hK
    · replace q : ¬ g.1 < 0 := q
      rw [if_neg (by omega)] at hK
      refine T_rfDone ?_
      exact retA hp hK
  · replace c9 : ¬ kd = 9 := c9
    rw [if_neg c9] at hK
    (repeat first|refine wx ?_|refine wy ?_|refine wz ?_|refine wv ?_|refine wh ?_)
    have pl := Wk.place_ok ok (key := oa)
    simp only at pl
    have g1 := Wk.before_ok (n := 7) (key := oa) ok lm1
    replace hp := hp.up 2
    replace hp := Go.Proofs.YtlmafbdhhneokaaGreat.hn hp
    refine T_rBefore hp ok lm1 fun h3 hp => ?_
    generalize w.before 7 oa (-1) 1 = hi at hp hK pl g1
    replace hp := hp.re 3 [1, 2, 0]
    replace hp := Go.Proofs.YtlmafbdhhneokaaGreat.hn hp
    (repeat first|refine wx ?_|refine wy ?_|refine wz ?_|refine wv ?_|refine wh ?_)
    have l2 : Lv hi.1 0 := ⟨g1.2.1, g1.2.2, by decide, by decide⟩
    have g2 := Wk.before_ok (n := 7) (key := oa) g1.1 l2
    replace hp := hp.up 2
    replace hp := Go.Proofs.YtlmafbdhhneokaaGreat.hn hp
    refine T_rBefore hp g1.1 l2 fun h4 hp => ?_
    simp only at hp
    generalize hi.2.before 7 oa hi.1 0 = lo at hp hK pl g2
    obtain ⟨p1, p2, p3, p4, p5⟩ := pl
    refine T_rNext hp g2.1 p2 fun h5 hp => ?_
    generalize lo.2.next lo.1 0 = at_ at hp hK p3 p4 p5
    replace hp := hp.re 3 [1, 2, 0]
    replace hp := Go.Proofs.YtlmafbdhhneokaaGreat.hn hp
    (repeat first|refine wx ?_|refine wy ?_|refine wz ?_|refine wv ?_|refine wh ?_)
    refine ifV_cases (fun c8 => ?_) fun c8 => ?_
    · replace c8 : kd = 8 := c8
      rw [if_pos c8] at hK
      (repeat first|refine wx ?_|refine wy ?_|refine wz ?_|refine wv ?_|refine wh ?_)
      refine ifV_cases (fun q => ?_) fun q => ?_
      · replace q : at_.1 = oa := q
        rw [if_pos q] at hK
        refine T_rfDone ?_
        replace hp := hp.re 3 [0, 2]
        replace hp := Go.Proofs.YtlmafbdhhneokaaGreat.hn hp
        exact retA hp hK
      · replace q : ¬ at_.1 = oa := q
        rw [if_neg q] at hK
        refine T_rfDone ?_
        replace hp := hp.re 3 [0, 2]
        replace hp := Go.Proofs.YtlmafbdhhneokaaGreat.hn hp
        exact retA hp hK
    · replace c8 : ¬ kd = 8 := c8
      rw [if_neg c8] at hK
      (repeat first|refine wx ?_|refine wy ?_|refine wz ?_|refine wv ?_|refine wh ?_)
      refine ifV_cases (fun c10 => ?_) fun c10 => ?_
      · replace c10 : kd = 10 := c10
        rw [if_pos c10] at hK
        generalize hr : at_.2.bits 7 at_.1 ob_ 0 = r at hK
        refine Lfp_fam (ι := Nat × Wk × Int × Int) (fun p => [ptr b, ptr vb, ptr rb, i64 p.2.2.1, i64 p.2.2.2]) (fun p h' => (p.2.2.1 = -1 ∧ 0 < p.1 ∨ 0 ≤ p.2.2.1 ∧ p.2.2.1 < 5 ∧ 6 - p.2.2.1 ≤ p.1) ∧ p.2.1.ok ∧ p.2.1.bits p.1 p.2.2.1 ob_ p.2.2.2 = r ∧ All (pts rb (resRow (i64 0) (i64 0)) :: pts vb (opRow ⟨kd, oa, ob_, ox⟩) :: pts b (rwkRow p.2.1) :: R) h') (fun p => p.1) ?_ (7, at_.2, at_.1, 0) h5 ⟨by simp only; omega, p3, hr, hp⟩
        rintro ⟨n, w1, x, out⟩ h6 X ⟨hn, ok1, hb, hp⟩ again
        simp only at hn ok1 hb hp
        simp only [tup_zero, tup_succ]
        obtain ⟨n, rfl⟩ : ∃ m, n = m + 1 := ⟨n - 1, by omega⟩
        unfold Wk.bits at hb
        (repeat first|refine wx ?_|refine wy ?_|refine wz ?_|refine wv ?_|refine wh ?_)
        refine ifV_cases (fun q => ?_) fun q => ?_
        · (repeat first|refine wx ?_|refine wy ?_|refine wz ?_|refine wv ?_|refine wh ?_)
          refine ifV_cases (fun q2 => ?_) fun q2 => ?_
          · replace q2 : x ≤ ob_ := q2
            rw [if_neg (by omega)] at hb
            unfold S89_j1
            refine bnd_of (cv_u64 q (by omega)) (bnd_of (shl_one q .u64) (bnd_of (or_bor _ _) ?_))
            have l3 : Lv x 0 := ⟨by omega, by omega, by decide, by decide⟩
            have g := Wk.next_ok ok1 l3
            replace hp := hp.up 2
            replace hp := Go.Proofs.YtlmafbdhhneokaaGreat.hn hp
            refine T_rNext hp ok1 l3 fun h7 hp => ?_
            replace hp := hp.re 3 [1, 2, 0]
            replace hp := Go.Proofs.YtlmafbdhhneokaaGreat.hn hp
            exact again (n, (w1.next x 0).2, (w1.next x 0).1, _) _ ⟨by have := g.2; simp only; omega, g.1, hb, hp⟩ (by simp only; omega)
          · replace q2 : ¬ x ≤ ob_ := q2
            rw [if_pos (.inr (by omega))] at hb
            subst hb
            refine T_rfDone ?_
            replace hp := hp.re 3 [0, 2]
            replace hp := Go.Proofs.YtlmafbdhhneokaaGreat.hn hp
            exact retA hp hK
        · rw [if_pos (.inl (by omega))] at hb
          subst hb
          refine T_rfDone ?_
          replace hp := hp.re 3 [0, 2]
          replace hp := Go.Proofs.YtlmafbdhhneokaaGreat.hn hp
          exact retA hp hK
      · replace c10 : ¬ kd = 10 := c10
        rw [if_neg c10] at hK
        (repeat first|refine wx ?_|refine wy ?_|refine wz ?_|refine wv ?_|refine wh ?_)
        refine ifV_cases (fun c6 => ?_) fun c6 => ?_
        · replace c6 : kd = 6 := c6
          rw [if_pos c6] at hK
          unfold Wk.insert at hK
          simp only at hK
          (repeat first|refine wx ?_|refine wy ?_|refine wz ?_|refine wv ?_|refine wh ?_)
          refine ifV_cases (fun q => ?_) fun q => ?_
          · replace q : at_.1 = oa := q
            rw [if_pos q] at hK
            refine T_rfCode ?_
            replace hp := hp.re 3 [0, 2]
            replace hp := Go.Proofs.YtlmafbdhhneokaaGreat.hn hp
            exact retA hp hK
          · replace q : ¬ at_.1 = oa := q
            rw [if_neg q] at hK
            (repeat first|refine wx ?_|refine wy ?_|refine wz ?_|refine wv ?_|refine wh ?_)
            replace hp := hp.up 2
            replace hp := Go.Proofs.YtlmafbdhhneokaaGreat.hn hp
            refine T_rPut hp p3 p2 l0 fun h6 hp => ?_
            have ok2 := Wk.put_ok p3 p2 l0
            generalize at_.2.put lo.1 oa 0 = w2 at hp hK ok2
            replace hp := hp.re 3 [1, 2, 0]
            replace hp := Go.Proofs.YtlmafbdhhneokaaGreat.hn hp
            (repeat first|refine wx ?_|refine wy ?_|refine wz ?_|refine wv ?_|refine wh ?_)
            refine ifV_cases (fun q2 => ?_) fun q2 => ?_
            · replace q2 : ox = 1 := q2
              rw [if_pos q2] at hK
              (repeat first|refine wx ?_|refine wy ?_|refine wz ?_|refine wv ?_|refine wh ?_)
              replace hp := hp.up 2
              replace hp := Go.Proofs.YtlmafbdhhneokaaGreat.hn hp
              refine T_rPut hp ok2 p1 l1 fun h7 hp => ?_
              replace hp := hp.re 3 [1, 2, 0]
              replace hp := Go.Proofs.YtlmafbdhhneokaaGreat.hn hp
              (repeat first|refine wx ?_|refine wy ?_|refine wz ?_|refine wv ?_|refine wh ?_)
              refine T_rfDone ?_
              replace hp := hp.re 3 [0, 2]
              replace hp := Go.Proofs.YtlmafbdhhneokaaGreat.hn hp
              exact retA hp hK
            · replace q2 : ¬ ox = 1 := q2
              rw [if_neg q2] at hK
              (repeat first|refine wx ?_|refine wy ?_|refine wz ?_|refine wv ?_|refine wh ?_)
              refine T_rfDone ?_
              replace hp := hp.re 3 [0, 2]
              replace hp := Go.Proofs.YtlmafbdhhneokaaGreat.hn hp
              exact retA hp hK
        · replace c6 : ¬ kd = 6 := c6
          rw [if_neg c6] at hK
          unfold Wk.erase at hK
          simp only at hK
          (repeat first|refine wx ?_|refine wy ?_|refine wz ?_|refine wv ?_|refine wh ?_)
          refine ifN_cases (fun q => ?_) fun q => ?_
          · replace q : ¬ at_.1 = oa := q
            rw [if_neg q] at hK
            refine T_rfCode ?_
            replace hp := hp.re 3 [0, 2]
            replace hp := Go.Proofs.YtlmafbdhhneokaaGreat.hn hp
            exact retA hp hK
          · replace q : at_.1 = oa := q
            rw [if_pos q] at hK
            (repeat first|refine wx ?_|refine wy ?_|refine wz ?_|refine wv ?_|refine wh ?_)
            replace hp := hp.up 2
            replace hp := Go.Proofs.YtlmafbdhhneokaaGreat.hn hp
            refine T_rDrop hp p3 p2 l0 fun h6 hp => ?_
            have ok2 := Wk.drop_ok p3 p2 l0
            generalize at_.2.drop lo.1 oa 0 = w2 at hp hK ok2
            replace hp := hp.re 3 [1, 2, 0]
            replace hp := Go.Proofs.YtlmafbdhhneokaaGreat.hn hp
            (repeat first|refine wx ?_|refine wy ?_|refine wz ?_|refine wv ?_|refine wh ?_)
            have ok3 := (Wk.next_ok ok2 p1).1
            replace hp := hp.up 2
            replace hp := Go.Proofs.YtlmafbdhhneokaaGreat.hn hp
            refine T_rNext hp ok2 p1 fun h7 hp => ?_
            generalize w2.next hi.1 1 = g at hp hK ok3
            replace hp := hp.re 3 [1, 2, 0]
            replace hp := Go.Proofs.YtlmafbdhhneokaaGreat.hn hp
            (repeat first|refine wx ?_|refine wy ?_|refine wz ?_|refine wv ?_|refine wh ?_)
            refine ifV_cases (fun q2 => ?_) fun q2 => ?_
            · replace q2 : g.1 = oa := q2
              rw [if_pos q2] at hK
              (repeat first|refine wx ?_|refine wy ?_|refine wz ?_|refine wv ?_|refine wh ?_)
              replace hp := hp.up 2
              replace hp := Go.Proofs.YtlmafbdhhneokaaGreat.hn hp
              refine T_rDrop hp ok3 p1 l1 fun h7 hp => ?_
              replace hp := hp.re 3 [1, 2, 0]
              replace hp := Go.Proofs.YtlmafbdhhneokaaGreat.hn hp
              (repeat first|refine wx ?_|refine wy ?_|refine wz ?_|refine wv ?_|refine wh ?_)
              refine T_rfDone ?_
              replace hp := hp.re 3 [0, 2]
              replace hp := Go.Proofs.YtlmafbdhhneokaaGreat.hn hp
              exact retA hp hK
            · replace q2 : ¬ g.1 = oa := q2
              rw [if_neg q2] at hK
              (repeat first|refine wx ?_|refine wy ?_|refine wz ?_|refine wv ?_|refine wh ?_)
              refine T_rfDone ?_
              replace hp := hp.re 3 [0, 2]
              replace hp := Go.Proofs.YtlmafbdhhneokaaGreat.hn hp
              exact retA hp hK
end
end Go.Proofs.YtlmafbdhhneokaaGreat
namespace Go.Proofs.YtlmafbdhhneokaaGreat
open Go GW Go.Proofs
attribute [local irreducible] bnd ldV stV ifV binV eqI
set_option linter.unusedVariables false
set_option linter.unusedSimpArgs false
section
variable {b c d rb pb ob : Nat} {v : Vw} {w : Wk} {R : List Part} {h : GH} {K : Value → GH → Prop} {o : Op}
theorem T_rOfBank (hK : K (.bool (decide (o.kind ≤ 5))) h) : T Tryz.prog 87 [.agg o.enc.toArray] h K := by
  apply T.drop
  apply S87_T
  unfold S87
  refine nw All.start (opRow o) rfl fun vb h1 hp => ?_
  (repeat first|refine wx ?_|refine wy ?_|refine wz ?_|refine wv ?_|refine wh ?_)
  exact ⟨h, baseP.le (hp.up 1), hK⟩
theorem T_rOne (hp : All R h) (ok : v.ok) (m : o.may = true) (hK : ∀ u h', All (askP (v.one o) u :: R) h' → K u h') : T Tryz.prog 63 [vwV v, .agg o.enc.toArray] h K := by
  apply S63_T
  unfold S63
  refine nwView hp ok fun vb h1 hp => ?_
  refine nw hp (opRow o) rfl fun ob h2 hp => ?_
  refine nw hp (.row 71 askZ 50 true) rfl fun rb h3 hp => ?_
  refine la2 hp (c := v.cells) (by rw [Vw.len ok]; decide) (Vw.agg_take ok) ?_
  refine bnd_of (fill_rwalk ok) ?_
  have wok : (⟨v, none⟩ : Wk).ok := ⟨ok, fun c e => by cases e⟩
  refine nw hp (rwkRow ⟨v, none⟩) ?_ fun wb h5 hp => ?_
  · show GObj.row _ (v.cells ++ [i64 (-1)]) (v.cells ++ [i64 (-1)]).length _ = _
    rw [List.length_append, Vw.len ok]; rfl
  refine nw hp (resRow (i64 0) (i64 0)) rfl fun ab h6 hp => ?_
  have hop : ∀ {h'} {P1 P2 P3 : Part} {l : List Part} {K' : Value → Prop}, All (P1 :: P2 :: P3 :: pts ob (opRow o) :: l) h' → K' (.agg o.enc.toArray) → bnd (ldV 4 true (ptr ob) h') K' := by
    intro h' P1 P2 P3 l K' hp k
    exact wK (ldV_agg (hp.pt (i := 3) rfl) 4 0 (by simp [Op.enc])) k
  refine hop hp ?_
  refine T_rOfBank ?_
  have j1 : ∀ (h7 : GH) (r : Answer × Wk), askOf v r = v.one o → r.2.ok → All (pts ab (resRow (i64 r.1.code) (i64 r.1.num)) :: pts wb (rwkRow r.2) :: pts rb (.row 71 askZ 50 true) :: pts vb (vwRow v) :: R) h7 → S63_j1 (ptr vb) (ptr rb) (ptr wb) (ptr ab) h7 K := by
    intro h7 r e rok hp
    obtain ⟨a, w⟩ := r
    simp only at rok hp
    unfold S63_j1
    have ld48 : ∀ {h'} {P1 : Part} {l : List Part} {K' : Value → Prop}, All (P1 :: pts wb (rwkRow w) :: l) h' → K' (needR w.need) → bnd (ldV 1 false (.pointer (some ⟨wb, 0 + 48, none⟩)) h') K' := fun hp k => ld1 hp (Vw.cell_t rok.v) k
    refine bnd_of rfl (bnd_of rfl ?_)
    refine ld48 hp ?_
    obtain ⟨y, e1, e2, e3⟩ := needR_lt rok
    rw [e1]
    (repeat first|refine wx ?_|refine wy ?_|refine wz ?_|refine wv ?_|refine wh ?_)
    rw [e3]
    unfold askOf at e
    cases hn : w.need with
    | some d =>
      simp only [hn] at e
      (repeat first|refine wx ?_|refine wy ?_|refine wz ?_|refine wv ?_|refine wh ?_)
      refine ld48 hp ?_
      rw [hn]
      refine wK (ldV_agg (hp.pt (i := 3) rfl) 48 0 (by rw [Vw.len ok]; decide)) ?_
      rw [Vw.agg_take ok]
      refine bnd_of (fill_ask2 (x := d) ok) ?_
      replace hp := hp.re 4 [2]
      replace hp := Go.Proofs.YtlmafbdhhneokaaGreat.hn hp
      refine retK (K := K) hp (askC_len vwZ_ok) ok rfl fun h8 hp => ?_
      rw [← e] at hK
      exact hK _ _ (askP_mk (m := ⟨some d, v, []⟩) (hp.emp_cons (rowP_nil 2 _)))
    | none =>
      simp only [hn] at e
      (repeat first|refine wx ?_|refine wy ?_|refine wz ?_|refine wv ?_|refine wh ?_)
      have j2 : ∀ (h8 : GH) (v2 : Vw) (nd : Value), v2.ok → v.one o = ⟨none, v2, [a]⟩ → All (pts ab (resRow (i64 a.code) (i64 a.num)) :: pts wb (.row 177 (v2.cells ++ [nd]) 49 true) :: pts rb (.row 71 askZ 50 true) :: R) h8 → S63_j2 (ptr rb) (ptr wb) (ptr ab) h8 K := by
        intro h8 v2 nd ok2 e2 hp
        unfold S63_j2
        refine bnd_of rfl (bnd_of rfl ?_)
        refine la1 hp (c := v2.cells) (by rw [List.length_append, Vw.len ok2]; exact Nat.le_add_right _ _) (Vw.take_t ok2) ?_
        refine la0 hp (c := a.enc) (by simp) rfl ?_
        refine bs0 (size := 2) hp ([a].map Answer.enc) rfl rfl (by simp) (fun c hc => by rw [List.mem_singleton.1 hc]; exact a.enc_good) fun s h9 hp => ?_
        have hs := rowP_one hp
        refine bnd_of (fill_ask3 (x := -1) ok2 hs.2) ?_
        replace hp := hp.re 4 [3, 0]
        replace hp := Go.Proofs.YtlmafbdhhneokaaGreat.hn hp
        refine retK (K := K) hp (askC_len vwZ_ok) ok2 hs.1 fun h10 hp => ?_
        rw [e2] at hK
        exact hK _ _ (askP_mk (m := ⟨none, v2, [a]⟩) hp)
      refine ifN_cases (fun q => ?_) fun q => ?_
      · replace q : ¬ a.code = 0 := q
        rw [if_neg q] at e
        refine wK (ldV_agg (hp.pt (i := 3) rfl) 48 0 (by rw [Vw.len ok]; decide)) ?_
        rw [Vw.agg_take ok]
        (repeat first|refine wx ?_|refine wy ?_|refine wz ?_|refine wv ?_|refine wh ?_)
        replace hp := hp.re 4 [1, 0, 2]
        replace hp := Go.Proofs.YtlmafbdhhneokaaGreat.hn hp
        refine st0 hp (.row 177 (v.cells ++ [needR w.need]) 49 true) ?_ (by rw [List.length_append, Vw.len rok.v]; exact Nat.le_add_right _ _) ?_ ?_ fun h8 hp => ?_
        · show v.cells.toArray.size = 48
          rw [List.size_toArray, Vw.len ok]
        · show v.cells.toArray.toList.all oneCell = true
          rw [List.toList_toArray]; exact Vw.one_cells
        · show GObj.row _ (setCells ([] ++ (w.v.cells ++ [needR w.need])) ([] : List Value).length v.cells.toArray.toList) _ _ = _
          rw [List.toList_toArray, setCells_mid (by rw [Vw.len ok, Vw.len rok.v])]; rfl
        · replace hp := hp.up 1
          replace hp := Go.Proofs.YtlmafbdhhneokaaGreat.hn hp
          exact j2 _ v _ ok e.symm hp
      · replace q : a.code = 0 := q
        rw [if_pos q] at e
        replace hp := hp.re 4 [0, 1, 2]
        replace hp := Go.Proofs.YtlmafbdhhneokaaGreat.hn hp
        exact j2 _ w.v _ rok.v e.symm hp
  refine ifV_cases (fun c => ?_) fun c => ?_
  · refine hop hp ?_
    replace hp := hp.re 5 [1, 0, 2, 4]
    replace hp := Go.Proofs.YtlmafbdhhneokaaGreat.hn hp
    refine T_rBank hp wok m c fun h7 hp => ?_
    replace hp := hp.up 1
    replace hp := Go.Proofs.YtlmafbdhhneokaaGreat.hn hp
    refine st0 hp (resRow (i64 (Wk.bank ⟨v, none⟩ o).1.code) (i64 (Wk.bank ⟨v, none⟩ o).1.num)) rfl (by simp) rfl rfl fun h8 hp => ?_
    exact j1 _ _ (by unfold Vw.one; rw [if_pos c]; rfl) (Wk.bank_ok wok (Op.may_bk m c) (Op.may_kind m).1 c) hp
  · refine hop hp ?_
    replace hp := hp.re 5 [1, 0, 2, 4]
    replace hp := Go.Proofs.YtlmafbdhhneokaaGreat.hn hp
    refine T_rSkip hp wok m (by omega) fun h7 hp => ?_
    replace hp := hp.up 1
    replace hp := Go.Proofs.YtlmafbdhhneokaaGreat.hn hp
    refine st0 hp (resRow (i64 (Wk.skip ⟨v, none⟩ o).1.code) (i64 (Wk.skip ⟨v, none⟩ o).1.num)) rfl (by simp) rfl rfl fun h8 hp => ?_
    exact j1 _ _ (by unfold Vw.one; rw [if_neg c]; rfl) (Wk.skip_ok wok (Op.may_sk m)) hp
theorem T_rViewMay (ok : v.ok) (hK : K (.bool true) h) : T Tryz.prog 61 [vwV v] h K := by
  apply T.drop
  apply S61_T
  unfold S61
  refine nwView All.start ok fun b h1 hp => ?_
  refine Lfp_fam (ι := Nat) (fun p => [ptr b, i64 p]) (fun p h' => p ≤ 16 ∧ h' = h1) (fun p => 16 - p) ?_ 0 h1 ⟨by omega, rfl⟩
  rintro i h2 X ⟨hi, rfl⟩ again
  simp only [tup_zero, tup_succ]
  (repeat first|refine wx ?_|refine wy ?_|refine wz ?_|refine wv ?_|refine wh ?_)
  refine ifV_cases (fun q => ?_) fun q => ⟨h, baseP.le (hp.up 1), hK⟩
  have hi' : i < 16 := by omega
  have e1 := Vw.cell_w (t := []) ok hi'
  have e2 := Vw.cell_n (t := []) ok hi'
  rw [List.append_nil] at e1 e2
  have hw : Vw.val (v.w.getD i 0) := by
    rw [List.getD_eq_getElem?_getD]
    cases e : v.w[i]? with
    | none => exact Vw.val0
    | some x => exact ok.rw x (List.mem_of_getElem? e)
  have hn := ok.at i
  obtain ⟨w0, w1⟩ := hw
  obtain ⟨n0, n1⟩ := hn
  refine bnd_of rfl (bnd_of (iaV_at hi' .i64) ?_)
  refine ld0 hp (off := 0 + 16 + i * 1) (by rw [Nat.zero_add, Nat.mul_one]; exact e1) ?_
  (repeat first|refine wx ?_|refine wy ?_|refine wz ?_|refine wv ?_|refine wh ?_)
  refine ifV_n (by omega) ?_
  refine bnd_of rfl (bnd_of (iaV_at hi' .i64) ?_)
  refine ld0 hp (off := 0 + 16 + i * 1) (by rw [Nat.zero_add, Nat.mul_one]; exact e1) ?_
  (repeat first|refine wx ?_|refine wy ?_|refine wz ?_|refine wv ?_|refine wh ?_)
  refine ifV_n (by omega) ?_
  refine bnd_of rfl (bnd_of (iaV_at hi' .i64) ?_)
  refine ld0 hp (off := 0 + 32 + i * 1) (by rw [Nat.zero_add, Nat.mul_one]; exact e2) ?_
  (repeat first|refine wx ?_|refine wy ?_|refine wz ?_|refine wv ?_|refine wh ?_)
  refine ifV_n (by omega) ?_
  refine bnd_of rfl (bnd_of (iaV_at hi' .i64) ?_)
  refine ld0 hp (off := 0 + 32 + i * 1) (by rw [Nat.zero_add, Nat.mul_one]; exact e2) ?_
  (repeat first|refine wx ?_|refine wy ?_|refine wz ?_|refine wv ?_|refine wh ?_)
  refine ifV_n (by omega) ?_
  (repeat first|refine wx ?_|refine wy ?_|refine wz ?_|refine wv ?_|refine wh ?_)
  exact again (i + 1) _ ⟨by omega, rfl⟩ (by omega)
end
end Go.Proofs.YtlmafbdhhneokaaGreat
namespace Go.Proofs.YtlmafbdhhneokaaGreat
open Go GW Go.Proofs
attribute [local irreducible] bnd ldV stV ifV binV eqI
set_option linter.unusedVariables false
set_option linter.unusedSimpArgs false
section
variable {b c d rb pb ob : Nat} {v : Vw} {w : Wk} {R : List Part} {h : GH} {K : Value → GH → Prop} {o : Op}
theorem T_rBody {sv : Value} {ops : List Op} (hp : All R h) (ok : v.ok) (hs : ∀ h', All R h' → rowsAt h' 4 sv (ops.map Op.enc)) (k0 : Txn.may ops = false → ∀ h', All R h' → K (.tuple #[askV 0 vwZ (.slice none 0 0), i64 700]) h')
    (hK : Txn.may ops = true → ∀ u h', All (askP (v.do_ ops) u :: R) h' → K (.tuple #[u, i64 0]) h') : T Tryz.prog 36 [vwV v, sv] h K := by
  apply S36_T
  unfold S36
  refine nwView hp ok fun vb h1 hp => ?_
  refine nw hp (.row 71 askZ 50 true) rfl fun rb h2 hp => ?_
  refine la1 hp (c := v.cells) (by rw [Vw.len ok]; decide) (Vw.agg_take ok) ?_
  refine T_rViewMay ok ?_
  (repeat first|refine wx ?_|refine wy ?_|refine wz ?_|refine wv ?_|refine wh ?_)
  have hsr := hs _ hp.tail.tail
  have hlen : lnV sv = some (i64 ops.length) := by have := hsr.len; rw [List.length_map] at this; exact this
  have hmx : ops.length ≤ 9223372036854775807 := by have := hsr.max; rw [List.length_map] at this; exact this
  have hmay : Txn.may ops = (ops.all Op.may && (decide (1 ≤ (ops.length : Int)) && decide ((ops.length : Int) ≤ 2))) := rfl
  -- behind the looks
  have j3 : ∀ (q : Bool), q = Txn.may ops → ∀ s1 a1, S36_j3 s1 sv (ptr vb) (ptr rb) (.bool q) h2 K a1 := by
    intro q hq s1 a1
    unfold S36_j3
    cases q with
    | false =>
      (repeat first|refine wx ?_|refine wy ?_|refine wz ?_|refine wv ?_|refine wh ?_)
      replace hp := hp.re 2 [0]
      replace hp := hn hp
      refine retK (x := 0) (v := vwZ) (s := .slice none 0 0) (K := fun u h => K (.tuple #[u, i64 700]) h) hp (askC_len vwZ_ok) vwZ_ok rfl fun h3 hp => ?_
      exact k0 hq.symm _ hp
    | true =>
      have hm := hq.symm
      replace hK := hK hm
      (repeat first|refine wx ?_|refine wy ?_|refine wz ?_|refine wv ?_|refine wh ?_)
      refine la1 hp (c := v.cells) (by rw [Vw.len ok]; decide) (Vw.agg_take ok) ?_
      refine nwstView hp ok fun wb h3 hp => ?_
      have hall : ∀ o ∈ ops, o.may = true := by
        unfold Txn.may at hm
        simp only [Bool.and_eq_true, List.all_eq_true] at hm
        exact hm.1
      have hl2 : ops.length ≤ 2 := by
        unfold Txn.may at hm
        simp only [Bool.and_eq_true, decide_eq_true_eq] at hm
        omega
      replace hp := hp.emp_cons (rowP_nil 2 (fun _ => none))
      generalize hr : v.do_ ops = r at hK
      refine Lfp_fam (ι := Nat × Vw × List Answer × Value) (fun p => [sv, ptr vb, ptr rb, ptr wb, p.2.2.2, i64 p.1]) (fun p h' => p.1 ≤ ops.length ∧ p.2.2.1.length ≤ p.1 ∧ p.2.1.ok ∧ v.doFrom (ops.drop p.1) p.2.1 p.2.2.1 = r ∧ All (rowP 2 p.2.2.2 (p.2.2.1.map Answer.enc) :: pts wb (vwRow p.2.1) :: pts rb (.row 71 askZ 50 true) :: pts vb (vwRow v) :: R) h') (fun p => ops.length - p.1) ?_ (0, v, [], .slice none 0 0) h3 ⟨by omega, by simp, ok, hr, hp⟩
      clear hp
      rintro ⟨i, wv, rs, av⟩ h4 X ⟨hi, hrl, wok, hd, hp⟩ again
      simp only at hi hrl wok hd hp
      simp only [tup_zero, tup_succ]
      have hss := hs _ hp.tail.tail.tail.tail
      have has := rowP_one hp
      refine bnd_of hlen ?_
      (repeat first|refine wx ?_|refine wy ?_|refine wz ?_|refine wv ?_|refine wh ?_)
      refine ifV_cases (fun q => ?_) fun q => ?_
      · obtain ⟨o, ho⟩ : ∃ o, ops[i]? = some o := ⟨_, List.getElem?_eq_getElem (by omega)⟩
        have om := hall o (List.mem_of_getElem? ho)
        have hoe : (ops.map Op.enc)[i]? = some o.enc := by rw [List.getElem?_map, ho]; rfl
        obtain ⟨p, e1, e2⟩ := hss.get hoe .i64
        have ed : ops.drop i = o :: ops.drop (i + 1) := by
          rw [List.drop_eq_getElem_cons (by omega)]
          congr 1
          rw [List.getElem?_eq_getElem (by omega)] at ho; exact Option.some.inj ho
        rw [ed] at hd
        unfold Vw.doFrom at hd
        refine la1 hp (c := wv.cells) (by rw [Vw.len wok]; decide) (Vw.agg_take wok) ?_
        refine bnd_of e1 (bnd_of e2 ?_)
        refine T_rOne hp wok om fun u h6 hp => ?_
        obtain ⟨vok, nok, aok⟩ := Vw.one_ok wok om
        generalize wv.one o = m at hp hd vok nok aok
        obtain ⟨mn, mv, ma⟩ := m
        simp only at vok nok aok hd
        refine askP_open hp fun s eu hp => ?_
        have hs1 := rowP_one hp
        rw [eu]
        refine nwstAsk hp vok hs1.1 fun kb h7 hp => ?_
        (repeat first|refine wx ?_|refine wy ?_|refine wz ?_|refine wv ?_|refine wh ?_)
        cases mn with
        | some cc =>
          have := nok cc rfl
          refine ifV_p (show (0 : Int) ≤ needN (some cc) from this.1) ?_
          (repeat first|refine wx ?_|refine wy ?_|refine wz ?_|refine wv ?_|refine wh ?_)
          refine wK (ldV_agg (hp.pt (i := 5) rfl) 48 0 (by rw [Vw.len ok]; decide)) ?_
          rw [Vw.agg_take ok]
          refine wK (fill_ask2 (x := cc) ok) ?_
          replace hp := hp.re 6 [4]
          replace hp := hn hp
          simp only at hd
          subst hd
          refine retK (K := fun u h => K (.tuple #[u, i64 0]) h) hp (askC_len vwZ_ok) ok rfl fun h8 hp => ?_
          exact hK _ _ (askP_mk (m := ⟨some cc, v, []⟩) (hp.emp_cons (rowP_nil 2 _)))
        | none =>
          obtain ⟨a, rfl⟩ := aok rfl
          refine ifV_n (show ¬ (0 : Int) ≤ needN none by decide) ?_
          refine bnd_of rfl ?_
          refine ld0 hp (askC_ans vok) ?_
          have hrow := All.rows (hp.up 1)
          replace hp := hp.re 3 [2, 0, 1]
          replace hp := hn hp
          refine ap0 hp hrow (Answer.all_good [a]) (by decide) (by simp only [List.length_map, List.length_cons, List.length_nil]; omega) fun av' h8 hp => ?_
          rw [← List.map_append] at hp
          refine bnd_of rfl ?_
          refine ld1 hp (askC_ans vok) ?_
          have hae : ([a].map Answer.enc)[0]? = some a.enc := rfl
          have hp2 := hp.up 2
          obtain ⟨bb, i1, i2, i3, i4⟩ := hp2.elt hae .i64
          refine wK (o := isV 2 s (i64 0)) i1 ?_
          refine bnd_of rfl ?_
          refine wK (i2 0 1 _ rfl) ?_
          (repeat first|refine wx ?_|refine wy ?_|refine wz ?_|refine wv ?_|refine wh ?_)
          refine ifN_cases (fun qc => ?_) fun qc => ?_
          · simp only [List.map_cons, List.map_nil] at hd
            rw [if_neg (by intro e; exact qc (by simpa using e))] at hd
            subst hd
            refine wK (ldV_agg (hp.pt (i := 5) rfl) 48 0 (by rw [Vw.len ok]; decide)) ?_
            rw [Vw.agg_take ok]
            have hs2 := rowP_one hp
            refine wK (fill_ask3 (x := -1) ok hs2.2) ?_
            replace hp := hp.re 6 [4, 0]
            replace hp := hn hp
            refine retK (K := fun u h => K (.tuple #[u, i64 0]) h) hp (askC_len vwZ_ok) ok hs2.1 fun h9 hp => ?_
            exact hK _ _ (askP_mk (m := ⟨none, v, rs ++ [a]⟩) hp)
          · simp only [List.map_cons, List.map_nil] at hd
            rw [if_pos (by rw [qc])] at hd
            refine bnd_of rfl ?_
            refine la1 hp (c := mv.cells) (by rw [askC_len vok]; decide) (askC_view vok) ?_
            replace hp := hp.re 6 [3, 0, 4, 5]
            replace hp := hn hp
            refine stView hp wok vok fun h9 hp => ?_
            (repeat first|refine wx ?_|refine wy ?_|refine wz ?_|refine wv ?_|refine wh ?_)
            replace hp := hp.up 1
            replace hp := hn hp
            exact again (i + 1, mv, rs ++ [a], av') _ ⟨by simp only; omega, by simp only [List.length_append, List.length_singleton]; omega, vok, hd, hp⟩ (by simp only; omega)
      · rw [List.drop_eq_nil_of_le (by omega)] at hd
        unfold Vw.doFrom at hd
        subst hd
        refine la1 hp (c := wv.cells) (by rw [Vw.len wok]; decide) (Vw.agg_take wok) ?_
        refine wK (fill_ask3 (x := -1) wok has.2) ?_
        replace hp := hp.re 4 [2, 0]
        replace hp := hn hp
        refine retK (K := fun u h => K (.tuple #[u, i64 0]) h) hp (askC_len vwZ_ok) wok has.1 fun h9 hp => ?_
        exact hK _ _ (askP_mk (m := ⟨none, wv, rs⟩) hp)
  -- the looks
  have j1 : ∀ (q : Bool), q = (decide (1 ≤ (ops.length : Int)) && decide ((ops.length : Int) ≤ 2)) → S36_j1 sv (ptr vb) (ptr rb) (.bool q) h2 K := by
    intro q hq
    unfold S36_j1
    refine Lfp_fam (ι := Nat × Bool) (fun p => [sv, ptr vb, ptr rb, .bool p.2, i64 p.1]) (fun p h' => p.1 ≤ ops.length ∧ h' = h2 ∧ (q && ops.all Op.may) = (p.2 && (ops.drop p.1).all Op.may)) (fun p => ops.length - p.1) ?_ (0, q) h2 ⟨by omega, rfl, rfl⟩
    rintro ⟨i, y⟩ h4 X ⟨hi, rfl, he⟩ again
    simp only at hi he
    simp only [tup_zero, tup_succ]
    have hfin : (y && (ops.drop i).all Op.may) = y → y = Txn.may ops := fun e => by
      rw [hmay, ← hq, Bool.and_comm, he, e]
    refine bnd_of hlen ?_
    (repeat first|refine wx ?_|refine wy ?_|refine wz ?_|refine wv ?_|refine wh ?_)
    refine ifV_cases (fun c => ?_) fun c => ?_
    · cases y with
      | false => (repeat first|refine wx ?_|refine wy ?_|refine wz ?_|refine wv ?_|refine wh ?_); exact j3 false (hfin rfl) _ _
      | true =>
        (repeat first|refine wx ?_|refine wy ?_|refine wz ?_|refine wv ?_|refine wh ?_)
        unfold S36_j2
        obtain ⟨o, ho⟩ : ∃ o, ops[i]? = some o := ⟨_, List.getElem?_eq_getElem (by omega)⟩
        have hoe : (ops.map Op.enc)[i]? = some o.enc := by rw [List.getElem?_map, ho]; rfl
        obtain ⟨p, e1, e2⟩ := hsr.get hoe .i64
        have ed : ops.drop i = o :: ops.drop (i + 1) := by
          rw [List.drop_eq_getElem_cons (by omega)]
          congr 1
          rw [List.getElem?_eq_getElem (by omega)] at ho; exact Option.some.inj ho
        rw [ed] at he
        refine bnd_of e1 (bnd_of e2 ?_)
        refine T_OpMayRef ?_
        (repeat first|refine wx ?_|refine wy ?_|refine wz ?_|refine wv ?_|refine wh ?_)
        exact again (i + 1, o.may) _ ⟨by simp only; omega, rfl, by simp only; rw [he]; simp⟩ (by simp only; omega)
    · refine j3 y (hfin ?_) _ _
      rw [List.drop_eq_nil_of_le (by omega)]; simp
  refine bnd_of hlen ?_
  (repeat first|refine wx ?_|refine wy ?_|refine wz ?_|refine wv ?_|refine wh ?_)
  refine ifV_cases (fun c => ?_) fun c => ?_
  · refine bnd_of hlen ?_
    (repeat first|refine wx ?_|refine wy ?_|refine wz ?_|refine wv ?_|refine wh ?_)
    exact j1 _ (by rw [decide_eq_true c]; rfl)
  · exact j1 false (by rw [decide_eq_false c]; rfl)
end
end Go.Proofs.YtlmafbdhhneokaaGreat
namespace Go.Proofs.YtlmafbdhhneokaaGreat
open Go GW Go.Proofs
attribute [local irreducible] bnd ldV stV ifV binV eqI
set_option linter.unusedVariables false
set_option linter.unusedSimpArgs false
set_option maxRecDepth 20000
/-! ### numbers that are cut from the front -/
def intsP (v : Value) (xs : List Int) : Part := fun h => ∃ a cap, v = .slice a xs.length cap ∧ xs.length ≤ cap ∧ xs.length ≤ 9223372036854775807 ∧
  (xs = [] ∨ ∃ rb off T pre sz, a = some ⟨rb, off, none⟩ ∧ h rb = some (.row T pre sz true) ∧ off + xs.length ≤ pre.length ∧ (pre.drop off).take xs.length = xs.map i64)
theorem intsP.le {v : Value} {xs : List Int} {h h' : GH} (l : HLe h h') (p : intsP v xs h) : intsP v xs h' := by
  obtain ⟨a, cap, e1, e2, e3, e4⟩ := p
  refine ⟨a, cap, e1, e2, e3, e4.imp id ?_⟩
  rintro ⟨rb, off, T, pre, sz, q1, q2, q3, q4⟩
  exact ⟨rb, off, T, pre, sz, q1, l _ _ q2, q3, q4⟩
theorem flat_encI (xs : List Int) : (xs.map encI).flatten = xs.map i64 := by
  induction xs with
  | nil => rfl
  | cons x xs ih => simp only [List.map_cons, List.flatten_cons, ih]; rfl
theorem intsP_of {v : Value} {xs : List Int} {h : GH} (o : rowP 1 v (xs.map encI) h) : intsP v xs h := by
  obtain ⟨a, cap, junk, e1, e2, e3, e4, e5⟩ := o
  rw [List.length_map] at e1 e2 e3
  refine ⟨a, cap, e1, e2, e3, ?_⟩
  rcases e5 with ⟨_, e5, _⟩ | ⟨b, T, q1, q2, _⟩
  · left; exact List.map_eq_nil_iff.1 e5
  · right
    refine ⟨b, 0, T, _, _, q1, q2, ?_, ?_⟩
    · rw [flat_encI]; simp
    · rw [List.drop_zero, flat_encI, List.take_left' (by simp)]
theorem intsP_cons {v : Value} {x : Int} {xs : List Int} {h : GH} (p : intsP v (x :: xs) h) : (∃ q, isV 1 v (i64 0) = some q ∧ ldV 1 false q h = some (i64 x)) ∧ ∃ v', slV 1 v (some (i64 1)) none = some v' ∧ intsP v' xs h ∧ oneCell v' = true ∧ v'.cells = #[v'] := by
  obtain ⟨a, cap, rfl, e2, e3, e4⟩ := p
  rcases e4 with e4 | ⟨rb, off, T, pre, sz, rfl, q2, q3, q4⟩
  · cases e4
  simp only [List.length_cons] at e2 e3 q3 q4 ⊢
  have h0 : pre[off]? = some (i64 x) := by
    have := congrArg (·[0]?) q4
    simp only [List.getElem?_take, List.getElem?_drop] at this
    rw [if_pos (by omega)] at this
    simpa using this
  constructor
  · refine ⟨.pointer (some ⟨rb, off, none⟩), ?_, by rw [ldV_cell q2]; exact h0⟩
    simp only [isV]; rw [if_pos ⟨by omega, by omega⟩]; simp
  · refine ⟨.slice (if cap = 1 then some ⟨rb, off, none⟩ else some ⟨rb, off + 1, none⟩) xs.length (cap - 1), ?_, ⟨_, _, rfl, by omega, by omega, ?_⟩, rfl, rfl⟩
    · have s1 : sbV none cap (xs.length + 1) = some (xs.length + 1) := rfl
      have s2 : sbV (some (i64 1)) (xs.length + 1) 0 = some 1 := by simp only [sbV]; rw [if_pos ⟨by omega, by omega⟩]; rfl
      simp only [slV, s1, s2, Option.map_some]
      rw [Addr.add_plain]
      rfl
    · cases xs with
      | nil => exact .inl rfl
      | cons y ys =>
        right
        simp only [List.length_cons] at e2 q3 q4 ⊢
        refine ⟨rb, off + 1, T, pre, sz, ?_, q2, by omega, ?_⟩
        · rw [if_neg (by omega)]
        · have := congrArg (List.drop 1) q4
          rw [List.drop_take, List.drop_drop] at this
          simpa using this
def pwRow (addr : Int) (v : Value) : GObj := .row 161 [i64 addr, v] 2 true
def pwP (b : Nat) (w : Wr) : Part := fun h => ∃ v, All [pts b (pwRow w.addr v), intsP v w.left] h
section
variable {a b c : Nat} {A : Ar} {R : List Part} {h : GH} {K : Value → GH → Prop} {v : Vw}
theorem intsP_at {v : Value} {xs : List Int} {P : Part} (hp : All (P :: intsP v xs :: R) h) : intsP v xs h := by
  obtain ⟨h1, h2, _, l1, _, p, _⟩ := hp.up 1
  exact p.le l1
theorem pwP_open {C : Prop} {w : Wr} (hp : All (pwP b w :: R) h) (k : ∀ v, All (pts b (pwRow w.addr v) :: intsP v w.left :: R) h → C) : C := by
  obtain ⟨v, hp⟩ := All.ex hp
  exact k v (All.flat hp)
theorem pwP_shut {w : Wr} {v : Value} (hp : All (pts b (pwRow w.addr v) :: intsP v w.left :: R) h) : All (pwP b w :: R) h := (All.fold (l := [_, _]) hp).head fun _ z => ⟨v, z⟩
theorem T_pwStep {w : Wr} (hp : All (arP 98 a A :: pwP b w :: R) h) (ok : w.ok)
    (hK : ∀ h', All (arP 98 a (w.step A).2.2 :: pwP b (w.step A).1 :: R) h' → K (.tuple #[.bool (w.step A).2.1, i64 0]) h') : T Tryz.prog 143 [ptr b, ptr a] h K := by
  apply S143_T
  unfold S143
  refine pwP_open (hp.up 1) fun v hp => ?_
  replace hp := Go.Proofs.YtlmafbdhhneokaaGreat.hn hp
  obtain ⟨addr, left⟩ := w
  simp only at hp
  (repeat first|refine wx ?_|refine wy ?_|refine wz ?_|refine wv ?_|refine wh ?_)
  unfold S143_j1
  (repeat first|refine wx ?_|refine wy ?_|refine wz ?_|refine wv ?_|refine wh ?_)
  have hi := intsP_at hp
  obtain ⟨a0, a1, rg⟩ := ok
  simp only at a0 a1 rg
  have hl : lnV v = some (i64 left.length) := by obtain ⟨a, cap, rfl, _⟩ := hi; rfl
  refine bnd_of hl ?_
  (repeat first|refine wx ?_|refine wy ?_|refine wz ?_|refine wv ?_|refine wh ?_)
  unfold Wr.step at hK
  cases left with
  | nil =>
    simp only at hK
    refine ifV_n (by simp) ?_
    unfold S143_j2
    (repeat first|refine wx ?_|refine wy ?_|refine wz ?_|refine wv ?_|refine wh ?_)
    refine bnd_of hl ?_
    (repeat first|refine wx ?_|refine wy ?_|refine wz ?_|refine wv ?_|refine wh ?_)
    exact hK _ ((pwP_shut (w := ⟨addr, []⟩) hp).up 1)
  | cons x r =>
    simp only at hK
    simp only [List.length_cons] at a1
    obtain ⟨⟨q, i1, i2⟩, v', i3, i4, i5, i6⟩ := intsP_cons hi
    refine ifV_p (by simp only [List.length_cons]; omega) ?_
    (repeat first|refine wx ?_|refine wy ?_|refine wz ?_|refine wv ?_|refine wh ?_)
    refine bnd_of i1 (bnd_of i2 ?_)
    replace hp := hp.up 2
    replace hp := Go.Proofs.YtlmafbdhhneokaaGreat.hn hp
    refine L_Store hp a0 (by (first | omega | (simp only; omega))) (rg x (by simp)) fun h1 hp => ?_
    replace hp := hp.up 1
    replace hp := Go.Proofs.YtlmafbdhhneokaaGreat.hn hp
    (repeat first|refine wx ?_|refine wy ?_|refine wz ?_|refine wv ?_|refine wh ?_)
    refine st0 hp (pwRow (addr + 1) v) rfl (by simp) rfl rfl fun h2 hp => ?_
    (repeat first|refine wx ?_|refine wy ?_|refine wz ?_|refine wv ?_|refine wh ?_)
    refine bnd_of i3 ?_
    (repeat first|refine wx ?_|refine wy ?_|refine wz ?_|refine wv ?_|refine wh ?_)
    refine st0 hp (pwRow (addr + 1) v') (by rw [i6]; rfl) (by simp) (by rw [i6]; simpa using i5) (by rw [i6]; rfl) fun h3 hp => ?_
    unfold S143_j2
    (repeat first|refine wx ?_|refine wy ?_|refine wz ?_|refine wv ?_|refine wh ?_)
    have hl' : lnV v' = some (i64 r.length) := by obtain ⟨a, cap, rfl, _⟩ := i4; rfl
    refine bnd_of hl' ?_
    (repeat first|refine wx ?_|refine wy ?_|refine wz ?_|refine wv ?_|refine wh ?_)
    replace hp := hp.re 3 [2, 0, 1]
    replace hp := Go.Proofs.YtlmafbdhhneokaaGreat.hn hp
    have hp2 : All (intsP v' r :: pts b (pwRow (addr + 1) v') :: arP 98 a (A.put addr x) :: R) h3 := by
      refine All.head (P := intsP v (x :: r)) ?_ fun h z => ?_
      · exact hp.re 3 [0, 1, 2]
      · obtain ⟨_, v'', j3, j4, _⟩ := intsP_cons z
        rw [i3] at j3; cases j3; exact j4
    have e : decide ((r.length : Int) = 0) = r.isEmpty := by cases r <;> simp; omega
    rw [e]
    refine hK _ ?_
    exact (pwP_shut (w := ⟨addr + 1, r⟩) (hp2.re 3 [1, 0, 2])).up 1
theorem T_pLifeMay {s g : Int} (hK : K (.bool (lifeMay s g)) h) : T Tryz.prog 27 [i64 s, i64 g] h K := by
  apply S27_T
  unfold S27
  unfold lifeMay at hK
  refine T_Below ?_
  refine ifV_cases (fun c => ?_) fun c => ?_
  · refine T_Below ?_
    rw [show decide (0 ≤ g ∧ g < 65536) = decide (0 ≤ s ∧ s < 12 ∧ 0 ≤ g ∧ g < 65536) from decide_eq_decide.2 (by omega)]
    exact hK
  · rw [decide_eq_false (by omega)] at hK
    exact hK
theorem T_descMay {v : Value} {ds : List Sw} (r : rowsAt h 3 v (ds.map encS)) (hK : K (.bool (swMay ds)) h) : T Tryz.prog 82 [v] h K := by
  apply T.drop
  apply S82_T
  unfold S82
  have hln := r.len
  rw [List.length_map] at hln
  have hmx := r.max
  rw [List.length_map] at hmx
  refine bnd_of hln ?_
  have no : swOk (-1) ds = false → swMay ds = false := fun e => by unfold swMay; rw [e, Bool.and_false]
  refine Lfp_fam (ι := Nat × Int) (fun p => [v, i64 p.2, v, i64 ds.length, i64 p.1]) (fun p h' => p.1 ≤ ds.length ∧ swOk (-1) ds = swOk p.2 (ds.drop p.1) ∧ All [baseP h] h') (fun p => ds.length - p.1) ?_ (0, -1) h ⟨by omega, rfl, All.start⟩
  rintro ⟨i, last⟩ h3 X ⟨hi, he, hp⟩ again
  simp only at hi he
  simp only [tup_zero, tup_succ]
  have rl := r.le (baseP.le hp)
  (repeat first|refine wx ?_|refine wy ?_|refine wz ?_|refine wv ?_|refine wh ?_)
  refine ifV_cases (fun q => ?_) fun q => ?_
  · obtain ⟨s, hse⟩ : ∃ s, ds[i]? = some s := ⟨_, List.getElem?_eq_getElem (by omega)⟩
    have hse' : (ds.map encS)[i]? = some (encS s) := by rw [List.getElem?_map, hse]; rfl
    obtain ⟨p, e1, e2⟩ := rl.get hse' .i64
    refine bnd_of e1 (bnd_of e2 ?_)
    refine nwst hp (.row 114 (encS s) 3 true) rfl rfl rfl rfl fun sb h4 hp => ?_
    have drop_ : ∀ {h'}, All (pts sb (.row 114 (encS s) 3 true) :: [baseP h]) h' → HLe h h' := fun hp => baseP.le (hp.up 1)
    rw [swOk_drop hse] at he
    obtain ⟨sc, sw_, sn⟩ := s
    (repeat first|refine wx ?_|refine wy ?_|refine wz ?_|refine wv ?_|refine wh ?_)
    refine ifV_cases (fun c => ?_) fun c => ?_
    · replace c : sc ≤ last := c
      refine ⟨h, drop_ hp, ?_⟩
      rw [no (by rw [he, decide_eq_false (by unfold Sw.fine; simp only; omega)]; rfl)] at hK; exact hK
    · replace c : ¬ sc ≤ last := c
      (repeat first|refine wx ?_|refine wy ?_|refine wz ?_|refine wv ?_|refine wh ?_)
      refine ifV_cases (fun c1 => ?_) fun c1 => ?_
      · replace c1 : 16 ≤ sc := c1
        refine ⟨h, drop_ hp, ?_⟩
        rw [no (by rw [he, decide_eq_false (by unfold Sw.fine; simp only; omega)]; rfl)] at hK; exact hK
      · replace c1 : ¬ 16 ≤ sc := c1
        (repeat first|refine wx ?_|refine wy ?_|refine wz ?_|refine wv ?_|refine wh ?_)
        refine T_cValueMay ?_
        (repeat first|refine wx ?_|refine wy ?_|refine wz ?_|refine wv ?_|refine wh ?_)
        refine ifN_cases (fun c2 => ?_) fun c2 => ?_
        · replace c2 : ¬ (0 ≤ sw_ ∧ sw_ < 1099511627776) := c2
          refine ⟨h, drop_ hp, ?_⟩
          rw [no (by rw [he, decide_eq_false (by unfold Sw.fine; simp only; omega)]; rfl)] at hK; exact hK
        · replace c2 : 0 ≤ sw_ ∧ sw_ < 1099511627776 := c2
          (repeat first|refine wx ?_|refine wy ?_|refine wz ?_|refine wv ?_|refine wh ?_)
          refine T_cValueMay ?_
          (repeat first|refine wx ?_|refine wy ?_|refine wz ?_|refine wv ?_|refine wh ?_)
          refine ifN_cases (fun c3 => ?_) fun c3 => ?_
          · replace c3 : ¬ (0 ≤ sn ∧ sn < 1099511627776) := c3
            refine ⟨h, drop_ hp, ?_⟩
            rw [no (by rw [he, decide_eq_false (by unfold Sw.fine; simp only; omega)]; rfl)] at hK; exact hK
          · replace c3 : 0 ≤ sn ∧ sn < 1099511627776 := c3
            (repeat first|refine wx ?_|refine wy ?_|refine wz ?_|refine wv ?_|refine wh ?_)
            refine again (i + 1, sc) _ ⟨by simp only; omega, ?_, hp.tail⟩ (by simp only; omega)
            simp only
            rw [he, decide_eq_true (by unfold Sw.fine; simp only; omega), Bool.true_and]
  · refine bnd_of hln ?_
    (repeat first|refine wx ?_|refine wy ?_|refine wz ?_|refine wv ?_|refine wh ?_)
    refine ⟨h, baseP.le hp, ?_⟩
    rw [List.drop_eq_nil_of_le (by omega)] at he
    unfold swMay at hK
    rw [he, show swOk last [] = true from rfl, Bool.and_true] at hK
    rw [show decide ((ds.length : Int) ≤ 16) = decide (ds.length ≤ 16) from decide_eq_decide.2 (by omega)]
    exact hK
theorem T_pNewWriter {v : Value} {slot gen : Int} {ds : List Sw} (hp : All R h) (r : ∀ h', All R h' → rowsAt h' 3 v (ds.map encS))
    (kn : ¬ (lifeMay slot gen = true ∧ swMay ds = true) → K (.tuple #[.pointer none, i64 1300]) h) (ky : lifeMay slot gen = true → swMay ds = true → ∀ b h', All (pwP b (newWr slot gen ds) :: R) h' → K (.tuple #[ptr b, i64 0]) h') : T Tryz.prog 55 [i64 slot, i64 gen, v] h K := by
  apply S55_T
  unfold S55
  refine T_pLifeMay ?_
  (repeat first|refine wx ?_|refine wy ?_|refine wz ?_|refine wv ?_|refine wh ?_)
  refine ifV_bool (fun c => ?_) fun c => ?_
  · exact kn fun q => by rw [q.1] at c; cases c
  have c1 : lifeMay slot gen = true := by simpa using c
  refine T_descMay (r _ hp) ?_
  (repeat first|refine wx ?_|refine wy ?_|refine wz ?_|refine wv ?_|refine wh ?_)
  refine ifV_bool (fun c => ?_) fun c => ?_
  · exact kn fun q => by rw [q.2] at c; cases c
  have c2 : swMay ds = true := by simpa using c
  have hl := c1
  unfold lifeMay at hl
  simp only [decide_eq_true_eq] at hl
  have hs := c2
  unfold swMay at hs
  simp only [Bool.and_eq_true, decide_eq_true_eq] at hs
  have hln := (r _ hp).len
  rw [List.length_map] at hln
  unfold S55_j1
  refine T_Base hl.1 hl.2.1 ?_
  refine T_State hl.2.2.1 hl.2.2.2 (by decide) (by decide) ?_
  refine bnd_of hln ?_
  refine T_Of (by omega) (by omega) ?_
  refine bs0 (size := 1) hp ([stateW gen 0, (ds.length : Int) * 4].map encI) rfl rfl (by simp) (encI_good _) fun rv h1 hp => ?_
  obtain ⟨sa, sc, _, rfl, _⟩ := hp.row
  (repeat first|refine wx ?_|refine wy ?_|refine wz ?_|refine wv ?_|refine wh ?_)
  refine nw hp (pwRow (baseOf slot) (.slice sa ([stateW gen 0, (ds.length : Int) * 4].map encI).length sc)) rfl fun b h2 hp => ?_
  refine bnd_of hln ?_
  let part (i : Nat) : List Int := [stateW gen 0, (ds.length : Int) * 4] ++ ((ds.take i).map fun s => [s.c * 4, s.w * 4, s.n * 4]).flatten
  have hlen : ∀ i, i ≤ ds.length → (part i).length = 2 + 3 * i := by
    intro i hi
    have := descRow_len gen (ds.take i)
    unfold descRow at this
    rw [List.length_append] at this ⊢
    rw [List.length_take, Nat.min_eq_left hi] at this
    exact this
  refine Lfp_fam (ι := Nat) (fun i => [ptr b, v, i64 ds.length, i64 i]) (fun i h' => i ≤ ds.length ∧ ∃ rv, All (pts b (pwRow (baseOf slot) rv) :: rowP 1 rv ((part i).map encI) :: R) h') (fun i => ds.length - i) ?_ 0 h2 ⟨by omega, _, hp⟩
  intro i h3 X ⟨hi, rv, hp⟩ again
  simp only [tup_zero, tup_succ]
  (repeat first|refine wx ?_|refine wy ?_|refine wz ?_|refine wv ?_|refine wh ?_)
  refine ifV_cases (fun c => ?_) fun c => ?_
  · obtain ⟨s, hse⟩ : ∃ s, ds[i]? = some s := ⟨_, List.getElem?_eq_getElem (by omega)⟩
    have hse' : (ds.map encS)[i]? = some (encS s) := by rw [List.getElem?_map, hse]; rfl
    obtain ⟨p, e1, e2⟩ := (r _ hp.tail.tail).get hse' .i64
    obtain ⟨m1, m2, m3, m4, m5, m6⟩ := swOk_mem (by decide) hs.2 s (List.mem_of_getElem? hse)
    refine bnd_of e1 (bnd_of e2 ?_)
    refine nwst hp (.row 114 (encS s) 3 true) rfl rfl rfl rfl fun sb h4 hp => ?_
    (repeat first|refine wx ?_|refine wy ?_|refine wz ?_|refine wv ?_|refine wh ?_)
    refine T_Of (by omega) (by omega) ?_
    (repeat first|refine wx ?_|refine wy ?_|refine wz ?_|refine wv ?_|refine wh ?_)
    refine T_Of (by omega) (by omega) ?_
    (repeat first|refine wx ?_|refine wy ?_|refine wz ?_|refine wv ?_|refine wh ?_)
    refine T_Of (by omega) (by omega) ?_
    (repeat first|refine wx ?_|refine wy ?_|refine wz ?_|refine wv ?_|refine wh ?_)
    replace hp := hp.re 3 [2, 1]
    replace hp := Go.Proofs.YtlmafbdhhneokaaGreat.hn hp
    refine bs0 (size := 1) hp ([s.c * 4, s.w * 4, s.n * 4].map encI) rfl rfl (by simp) (encI_good _) fun xv h4 hp => ?_
    have hrows := hp.rows
    refine ap0 (hp.up 1) hrows (encI_good _) (by decide) (by rw [List.length_map, hlen i hi]; simp; omega) fun rv' h5 hp => ?_
    replace hp := hp.re 3 [0, 2]
    replace hp := Go.Proofs.YtlmafbdhhneokaaGreat.hn hp
    obtain ⟨sa, sc, _, rfl, _⟩ := hp.row
    (repeat first|refine wx ?_|refine wy ?_|refine wz ?_|refine wv ?_|refine wh ?_)
    refine st1 hp (pwRow (baseOf slot) (.slice sa ((part i).map encI ++ [s.c * 4, s.w * 4, s.n * 4].map encI).length sc)) rfl (by simp) rfl rfl fun h6 hp => ?_
    (repeat first|refine wx ?_|refine wy ?_|refine wz ?_|refine wv ?_|refine wh ?_)
    have ep : (part (i + 1)).map encI = (part i).map encI ++ [s.c * 4, s.w * 4, s.n * 4].map encI := by
      rw [← List.map_append]
      congr 1
      simp only [part]
      rw [List.take_add_one, hse, List.map_append, List.flatten_append]
      simp
    have hp2 := hp.up 1
    rw [← ep] at hp2
    exact again (i + 1) _ ⟨by omega, _, hp2⟩ (by omega)
  · refine ky c1 c2 b _ ?_
    have ep : part i = descRow gen ds := by
      simp only [part]
      rw [List.take_of_length_le (by omega)]; rfl
    rw [ep] at hp
    refine pwP_shut (w := newWr slot gen ds) (v := rv) ?_
    have := All.head (hp.up 1) fun h z => intsP_of z
    exact this.up 1
/-! ### a view's entries -/
def Vw.rowsFrom (v : Vw) : Nat → Nat → List Sw
  | _, 0 => []
  | i, n + 1 => (if v.k.getD i false then [⟨i, v.w.getD i 0, v.n.getD i 0⟩] else []) ++ v.rowsFrom (i + 1) n
def Vw.rows (v : Vw) : List Sw := v.rowsFrom 0 16
theorem Vw.rowsFrom_ok (o : v.ok) : ∀ {n i : Nat} {last : Int}, last < i → i + n ≤ 16 → swOk last (v.rowsFrom i n) = true ∧ (v.rowsFrom i n).length ≤ n := by
  intro n
  induction n with
  | zero => intro i last _ _; exact ⟨rfl, Nat.le_refl _⟩
  | succ n ih =>
    intro i last h0 h1
    unfold Vw.rowsFrom
    have hw : Vw.val (v.w.getD i 0) := by
      rw [List.getD_eq_getElem?_getD]
      cases e : v.w[i]? with
      | none => exact Vw.val0
      | some x => exact o.rw x (List.mem_of_getElem? e)
    have hn := o.at i
    split
    · have := ih (i := i + 1) (last := (i : Int)) (by omega) (by omega)
      refine ⟨?_, by simp only [List.length_append, List.length_singleton]; omega⟩
      show swOk last (⟨i, _, _⟩ :: v.rowsFrom (i + 1) n) = true
      unfold swOk
      obtain ⟨w0, w1⟩ := hw
      obtain ⟨n0, n1⟩ := hn
      rw [this.1, Bool.and_true]
      exact decide_eq_true ⟨h0, by simp only; omega, w0, w1, n0, n1⟩
    · have := ih (i := i + 1) (last := last) (by omega) (by omega)
      exact ⟨this.1, by simp only [List.nil_append]; omega⟩
theorem Vw.rows_may (o : v.ok) : swMay v.rows = true := by
  have := Vw.rowsFrom_ok o (n := 16) (i := 0) (last := -1) (by decide) (by decide)
  unfold swMay Vw.rows
  rw [this.1, decide_eq_true this.2]; rfl
theorem T_pRows (hp : All R h) (ok : v.ok) (hK : ∀ u h', All (rowP 3 u (v.rows.map encS) :: R) h' → K u h') : T Tryz.prog 56 [vwV v] h K := by
  apply S56_T
  unfold S56
  refine nwView hp ok fun b h1 hp => ?_
  refine bnd_of rfl ?_
  have l1 := ok.lk
  have l2 := ok.lw
  have l3 := ok.ln
  refine la0 hp (c := v.k.map Value.bool) (by rw [Vw.len ok]; decide) (by
    rw [List.drop_zero, Vw.cells, List.take_left' (by simpa using l1)]) ?_
  replace hp := hp.emp_cons (rowP_nil 3 (fun _ => none))
  refine Lfp_fam (ι := Nat × List Sw × Value) (fun p => [ptr b, p.2.2, .agg (v.k.map Value.bool).toArray, i64 p.1]) (fun p h' => p.1 ≤ 16 ∧ p.2.1.length ≤ p.1 ∧ p.2.1 ++ v.rowsFrom p.1 (16 - p.1) = v.rows ∧ All (rowP 3 p.2.2 (p.2.1.map encS) :: pts b (vwRow v) :: R) h') (fun p => 16 - p.1) ?_ (0, [], .slice none 0 0) h1 ⟨by omega, by simp, rfl, hp⟩
  clear hp
  rintro ⟨i, acc, av⟩ h2 X ⟨hi, hal, he, hp⟩ again
  simp only at hi hal he hp
  simp only [tup_zero, tup_succ]
  (repeat first|refine wx ?_|refine wy ?_|refine wz ?_|refine wv ?_|refine wh ?_)
  refine ifV_cases (fun q => ?_) fun q => ?_
  · have hi' : i < 16 := by omega
    have e1 := Vw.cell_w (t := []) ok hi'
    have e2 := Vw.cell_n (t := []) ok hi'
    rw [List.append_nil] at e1 e2
    have ek : ixV 16 1 false (.agg (v.k.map Value.bool).toArray) (i64 i) = some (.bool (v.k.getD i false)) := by
      simp only [ixV]
      rw [if_pos ⟨by omega, by omega⟩]
      simp only [Int.toNat_natCast, Nat.mul_one, List.getElem?_toArray, List.getElem?_map, List.getD_eq_getElem?_getD]
      rw [List.getElem?_eq_getElem (by omega)]; rfl
    refine bnd_of ek ?_
    obtain ⟨m, hm⟩ : ∃ m, 16 - i = m + 1 := ⟨15 - i, by omega⟩
    have em : 16 - (i + 1) = m := by omega
    rw [hm] at he
    unfold Vw.rowsFrom at he
    cases hk : v.k.getD i false with
    | true =>
      rw [hk] at he
      (repeat first|refine wx ?_|refine wy ?_|refine wz ?_|refine wv ?_|refine wh ?_)
      refine bnd_of (iaV_at hi' .i64) ?_
      refine ld1 hp (off := 0 + 16 + i * 1) (by rw [Nat.zero_add, Nat.mul_one]; exact e1) ?_
      (repeat first|refine wx ?_|refine wy ?_|refine wz ?_|refine wv ?_|refine wh ?_)
      refine bnd_of (iaV_at hi' .i64) ?_
      refine ld1 hp (off := 0 + 32 + i * 1) (by rw [Nat.zero_add, Nat.mul_one]; exact e2) ?_
      refine bnd_of (v := encS ⟨i, v.w.getD i 0, v.n.getD i 0⟩) rfl ?_
      refine bs0 (size := 3) hp ([Sw.mk i (v.w.getD i 0) (v.n.getD i 0)].map encS) rfl rfl (by simp) (encS_good _) fun xv h4 hp => ?_
      have hrows := hp.rows
      refine ap0 (hp.up 1) hrows (encS_good _) (by decide) (by rw [List.length_map]; simp; omega) fun av' h5 hp => ?_
      rw [← List.map_append] at hp
      replace hp := hp.re 3 [0, 2]
      replace hp := Go.Proofs.YtlmafbdhhneokaaGreat.hn hp
      (repeat first|refine wx ?_|refine wy ?_|refine wz ?_|refine wv ?_|refine wh ?_)
      exact again (i + 1, acc ++ [Sw.mk i (v.w.getD i 0) (v.n.getD i 0)], av') _ ⟨by simp only; omega, by simp only [List.length_append, List.length_singleton]; omega, by simp only [em]; rw [List.append_assoc]; exact he, hp⟩ (by simp only; omega)
    | false =>
      rw [hk] at he
      (repeat first|refine wx ?_|refine wy ?_|refine wz ?_|refine wv ?_|refine wh ?_)
      exact again (i + 1, acc, av) _ ⟨by simp only; omega, by simp only; omega, by simp only [em]; exact he, hp⟩ (by simp only; omega)
  · rw [show 16 - i = 0 by omega] at he
    unfold Vw.rowsFrom at he
    rw [List.append_nil] at he
    rw [he] at hp
    exact hK _ _ (hp.re 2 [0])
end
end Go.Proofs.YtlmafbdhhneokaaGreat
