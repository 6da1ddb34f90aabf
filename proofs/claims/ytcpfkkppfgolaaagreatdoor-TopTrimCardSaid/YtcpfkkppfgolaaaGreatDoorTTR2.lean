/- Several texts in one; nothing here is a statement on the program. -/
import Derived.Test.YtcpfkkppfgolaaaGreatDoorTTR1
set_option linter.unusedVariables false
set_option linter.unusedSimpArgs false
namespace Go.Proofs.YtcpfkkppfgolaaaGreatDoor.GW
open Go
def ifV (v : Value) (A B : Prop) : Prop :=
  match v with
  | .bool b => (match b with | true => A | false => B)
  | _ => False
@[simp] theorem ifV_true (A B : Prop) : ifV (.bool true) A B = A := rfl
@[simp] theorem ifV_false (A B : Prop) : ifV (.bool false) A B = B := rfl
def guardG (ops : Array Oper) (o : Oper) (e : GEnv) (run skip : GEnv → Prop) : Prop :=
  match o.guard with
  | none => run e
  | some (j, want) =>
    match (ops[j]?).bind (·.dst) with
    | none => False
    | some d =>
      match e d with
      | .skip => skip e
      | .unk => False
      | .val v =>
        match want with
        | true => ifV v (run (setE e d (.val (.bool true)))) (skip (setE e d (.val (.bool false))))
        | false => ifV v (skip (setE e d (.val (.bool true)))) (run (setE e d (.val (.bool false))))
theorem setE_self {e : GEnv} {d : Nat} {v : GV} (h : e d = v) : setE e d v = e := by
  funext i
  by_cases hi : i = d
  · subst hi; rw [setE_same, h]
  · rw [setE_ne _ _ hi]
theorem guardG_spec {ops : Array Oper} {o : Oper} {e : GEnv} {run skip : GEnv → Prop} (g : guardG ops o e run skip) : (gst ops o e = some true ∧ run e) ∨ (gst ops o e = some false ∧ skip e) := by
  unfold guardG at g
  unfold gst
  split at g
  · rename_i hg; left; simp only [hg]; exact ⟨trivial, g⟩
  · rename_i j want hg
    simp only [hg]
    split at g
    · exact g.elim
    · rename_i d hd
      simp only [hd]
      split at g
      · rename_i he; right; simp only [he]; exact ⟨trivial, g⟩
      · exact g.elim
      · rename_i v he
        split at g
        · unfold ifV at g
          split at g
          · rename_i b
            split at g
            · rw [setE_self he] at g; left; simp only [he]; exact ⟨rfl, g⟩
            · rw [setE_self he] at g; right; simp only [he]; exact ⟨rfl, g⟩
          · exact g.elim
        · unfold ifV at g
          split at g
          · rename_i b
            split at g
            · rw [setE_self he] at g; right; simp only [he]; exact ⟨rfl, g⟩
            · rw [setE_self he] at g; left; simp only [he]; exact ⟨rfl, g⟩
          · exact g.elim
def gopsL (P : Program) (ops : Array Oper) : List Oper → GEnv → GH → (GEnv → GH → Prop) → Prop
  | [], e, h, Q => Q e h
  | o :: r, e, h, Q =>
    guardG ops o e (fun e => gopX P o.op e h fun v h' => gopsL P ops r (setD e o.dst (.val v)) h' Q) (fun e => gopsL P ops r (setD e o.dst .skip) h Q)
def ldsC (ms : List Nat) (i : Nat) (h : GH) (K : Prop) : Lds → Prop
  | [] => K
  | (x, a, v) :: r => match (ms.getD i 0).testBit x with | true => ldsC ms i h K r | false => a.get h = some v ∧ ldsC ms i h K r
theorem ldsC_spec {ms : List Nat} {i : Nat} {h : GH} {K : Prop} : ∀ {l : Lds}, ldsC ms i h K l → ldsOk ms i h l ∧ K := by
  intro l
  induction l with
  | nil => intro k; exact ⟨trivial, k⟩
  | cons q l ih =>
    intro k
    obtain ⟨x, a, v⟩ := q
    simp only [ldsC] at k
    split at k
    · rename_i hb; exact ⟨⟨.inl hb, (ih k).1⟩, (ih k).2⟩
    · exact ⟨⟨.inr k.1, (ih k.2).1⟩, (ih k.2).2⟩
def gdS (P : Program) (ops : Array Oper) (ms : List Nat) : List Nat → GEnv → GH → Lds → (GEnv → GH → Prop) → Prop
  | [], e, h, _, Q => Q e h
  | i :: r, e, h, lds, Q =>
    match ops[i]? with
    | none => False
    | some o =>
      guardG ops o e
        (fun e =>
          match o.op with
          | .load t a => (match evO e a, szK P t with | some p, some (n, g) => bnd (ldV n g p h) fun v => gdS P ops ms r (setD e o.dst (.val v)) h ((i, .row n g p, v) :: lds) Q | _, _ => False)
          | .lookup t m k false => (match evO e m, evO e k, mkeyK P t with | some m, some k, some ik => bnd (mlkV ik m k h) fun v => gdS P ops ms r (setD e o.dst (.val v)) h ((i, .key ik m k, v) :: lds) Q | _, _, _ => False)
          | op =>
            match cls op with
            | .write => gop P op e h fun v h' => ldsC ms i h' (gdS P ops ms r (setD e o.dst (.val v)) h' lds Q) lds
            | .pure => gop P op e h fun v h' => gdS P ops ms r (setD e o.dst (.val v)) h' lds Q
            | .alloc => gop P op e h fun v h' => gdS P ops ms r (setD e o.dst (.val v)) h' lds Q
            | _ => False)
        (fun e => gdS P ops ms r (setD e o.dst .skip) h lds Q)
theorem gdr_of_gdS {P : Program} {ops : Array Oper} {ms : List Nat} {Q : GEnv → GH → Prop} : ∀ (c : List Nat) (e : GEnv) (h : GH) (l : Lds), gdS P ops ms c e h l Q → gdr P ops ms c e h l Q := by
  intro c
  induction c with
  | nil => intro e h l g; exact g
  | cons i c ih =>
    intro e h l g
    simp only [gdS, gdr] at g ⊢
    split at g
    · exact g.elim
    · rename_i o ho
      simp only [ho]
      unfold gxe
      rcases guardG_spec g with ⟨hg, g⟩ | ⟨hg, g⟩
      · simp only [hg]
        split at g
        · rename_i t a hop
          have hcl : cls o.op = .load := by rw [hop]; rfl
          simp only [hcl]
          split at g
          · rename_i p n gg hp hs
            obtain ⟨v, hv, g⟩ := bnd_iff.1 g
            exact ⟨.row n gg p, v, by rw [hop]; simp only [laO, hp, hs], hv, ih _ _ _ g⟩
          · exact g.elim
        · rename_i t m k hop
          have hcl : cls o.op = .load := by rw [hop]; rfl
          simp only [hcl]
          split at g
          · rename_i m' k' ik hm hk hi
            obtain ⟨v, hv, g⟩ := bnd_iff.1 g
            exact ⟨.key ik m' k', v, by rw [hop]; simp only [laO, hm, hk, hi], hv, ih _ _ _ g⟩
          · exact g.elim
        · split at g
          · rename_i hc; simp only [hc]; exact gop_mono g fun v h' q => by obtain ⟨q1, q2⟩ := ldsC_spec q; exact ⟨q1, ih _ _ _ q2⟩
          · rename_i hc; simp only [hc]; exact gop_mono g fun v h' q => ih _ _ _ q
          · rename_i hc; simp only [hc]; exact gop_mono g fun v h' q => ih _ _ _ q
          · exact g.elim
      · simp only [hg]; exact ih _ _ _ g
inductive Ex where
  | normal | exit (id : Nat) | ret
abbrev Post := Ex → GEnv → GH → Prop
def thenQ (next : GEnv → GH → Prop) (Q : Post) : Post := fun x e h =>
  match x with
  | .normal => next e h
  | .exit id => Q (.exit id) e h
  | .ret => Q .ret e h
def blockQ (id : Nat) (Q : Post) : Post := fun x e h =>
  match x with
  | .normal => Q .normal e h
  | .exit k => (match Nat.beq k id with | true => Q .normal e h | false => Q (.exit k) e h)
  | .ret => Q .ret e h
structure Ann where
  draw : Nat → List Nat × List Nat
  loop : Nat → List Nat
def Lfp {S : Type} (F : S → GH → (S → GH → Prop) → Prop) (s : S) (h : GH) : Prop := ∀ X : S → GH → Prop, (∀ s h, F s h X → X s h) → X s h
def posN (i : Nat) : List Nat → Nat → Option Nat
  | [], _ => none
  | k :: l, n => match Nat.beq i k with | true => some n | false => posN i l (n + 1)
def envOf (L : List Nat) (s : Nat → Value) : GEnv := fun i => match posN i L 0 with | some k => .val (s k) | none => .unk
def evS (e : GEnv) : List Nat → Option (List Value)
  | [] => some []
  | i :: l => match e i with | .val v => (match evS e l with | some vs => some (v :: vs) | none => none) | _ => none
def tup : List Value → Nat → Value
  | [], _ => undef
  | v :: _, 0 => v
  | _ :: l, n + 1 => tup l n
def gwp (P : Program) (A : Ann) : Nat → Code → Post → GEnv → GH → Prop
  | _, .skip, Q, e, h => Q .normal e h
  | _, .region id ops draw, Q, e, h =>
    (match draw with
     | false => gopsL P ops ops.toList e h (Q .normal)
     | true => (match drawB ops (A.draw id).1 (A.draw id).2 with | true => gdS P ops (A.draw id).2 (A.draw id).1 e h [] (Q .normal) | false => False))
  | b, .seq x y, Q, e, h => gwp P A b x (thenQ (gwp P A b y Q) Q) e h
  | b, .cond c x y, Q, e, h =>
    (match c with
     | .tmp t => (match e t with | .val v => ifV v (gwp P A b x Q (setE e t (.val (.bool true))) h) (gwp P A b y Q (setE e t (.val (.bool false))) h) | _ => False)
     | .const v => ifV v (gwp P A b x Q e h) (gwp P A b y Q e h)
     | _ => False)
  | _, .block id c, Q, e, h => gwp P A id c (blockQ id Q) e h
  | b, .loop c, Q, e, h =>
    (match evS e (A.loop b) with
     | some vs => Lfp (fun s h again => gwp P A b c (thenQ (fun e' h' => match evS e' (A.loop b) with | some vs' => again (tup vs') h' | none => False) Q) (envOf (A.loop b) s) h) (tup vs) h
     | none => False)
  | _, .exit id, Q, e, h => Q (.exit id) e h
  | _, .ret, Q, e, h => Q .ret e h
  | _, _, _, _, _ => False
def dstsB (N : Nat) : Code → Bool
  | .region _ ops _ => ops.toList.all fun o => match o.dst with | some d => Nat.blt d N | none => true
  | .seq x y => dstsB N x && dstsB N y
  | .cond _ x y => dstsB N x && dstsB N y
  | .block _ c => dstsB N c
  | .loop c => dstsB N c
  | _ => true
section
variable {P : Program} {A : Ann} {N : Nat} {h0 : GH} {w0 : World}
def exM : Exit → Ex → Prop
  | .normal, .normal => True
  | .exit k, .exit k' => k = k'
  | .ret, .ret => True
  | _, _ => False
def QW (N : Nat) (h0 : GH) (w0 : World) (Q : Post) : Exit → Act → World → Prop := fun x a w => ∃ ex e h, exM x ex ∧ Rel N h0 w0 e h a w ∧ Q ex e h
theorem gopsL_sound {ops : Array Oper} {Qw : Exit → Act → World → Prop} {Q : GEnv → GH → Prop} (hQ : ∀ e h a w, Q e h → Rel N h0 w0 e h a w → Qw .normal a w) :
    ∀ (l : List Oper), (∀ o ∈ l, ∀ k, o.dst = some k → k < N) → ∀ (e : GEnv) (h : GH) (a : Act) (w : World), Rel N h0 w0 e h a w → gopsL P ops l e h Q → wpList P ops Qw l a w := by
  intro l
  induction l with
  | nil => intro _ e h a w r g; exact hQ e h a w g r
  | cons o l ih =>
    intro hd e h a w r g
    simp only [gopsL] at g
    unfold wpList
    rcases guardG_spec g with ⟨hg, g⟩ | ⟨hg, g⟩
    · rw [wanted_of_gst r.env hg]
      simp only [if_true]
      left
      exact gopX_wp r (hd o (by simp)) g _ fun v h' a' w' q r' => ih (fun o ho => hd o (List.mem_cons_of_mem _ ho)) _ _ _ _ r' q
    · rw [wanted_of_gst r.env hg]
      simp only [Bool.false_eq_true, if_false]
      exact ih (fun o ho => hd o (List.mem_cons_of_mem _ ho)) _ _ _ _ (r.put (hd o (by simp)) (fun u hu => by cases hu) (fun _ => rfl) r.sub (.refl _ _)) g
theorem QW_then {Q : Post} {next : GEnv → GH → Prop} {nw : Act → World → Prop} (hn : ∀ e h a w, Rel N h0 w0 e h a w → next e h → nw a w) {x : Exit} {a : Act} {w : World} (q : QW N h0 w0 (thenQ next Q) x a w) : Exit.then nw (QW N h0 w0 Q) x a w := by
  obtain ⟨ex, e, h, hx, r, q⟩ := q
  cases x <;> cases ex <;> simp only [exM] at hx
  · exact hn e h a w r q
  · exact ⟨_, e, h, by simp only [exM]; exact hx, r, q⟩
  · exact ⟨.ret, e, h, trivial, r, q⟩
theorem QW_block {Q : Post} {id : Nat} {x : Exit} {a : Act} {w : World} (q : QW N h0 w0 (blockQ id Q) x a w) : Exit.inBlock id (QW N h0 w0 Q) x a w := by
  obtain ⟨ex, e, h, hx, r, q⟩ := q
  cases x <;> cases ex <;> simp only [exM] at hx
  · exact ⟨.normal, e, h, trivial, r, q⟩
  · subst hx
    simp only [blockQ] at q
    simp only [Exit.inBlock]
    rename_i k
    split at q
    · rename_i hb
      rw [if_pos (Nat.eq_of_beq_eq_true hb)]
      exact ⟨.normal, e, h, trivial, r, q⟩
    · rename_i hb
      have : k ≠ id := by rintro rfl; simp at hb
      rw [if_neg this]
      exact ⟨.exit k, e, h, rfl, r, q⟩
  · exact ⟨.ret, e, h, trivial, r, q⟩
def LW (P : Program) (c : Code) (Q : Exit → Act → World → Prop) (a : Act) (w : World) : Prop :=
  ∀ (b : Frame) (k : List Item) (cs : List Frame), ∃ e a' w', Q e a' w' ∧ Arrives P (lone (b.at a (.code c :: .inLoop c :: k)) cs w) b k cs e a' w'
theorem LW_unroll {c : Code} {Q : Exit → Act → World → Prop} {a : Act} {w : World} (h : c.wp P (Exit.then (LW P c Q) Q) a w) : LW P c Q a w := by
  intro b k cs
  obtain ⟨e, a₁, w₁, hq, harr⟩ := h b (.inLoop c :: k) cs
  cases e with
  | normal =>
    obtain ⟨e₂, a₂, w₂, hq₂, harr₂⟩ := hq b k cs
    exact ⟨e₂, a₂, w₂, hq₂, .of_steps (Steps.trans harr (.one step_inLoop)) harr₂⟩
  | exit id => exact ⟨_, a₁, w₁, hq, .pass (x := .inLoop c) rfl (fun _ _ => .inl (by simp)) harr⟩
  | goto l => exact ⟨_, a₁, w₁, hq, .pass (x := .inLoop c) rfl (fun _ _ => .inl (by simp)) harr⟩
  | ret => exact ⟨_, a₁, w₁, hq, .pass (x := .inLoop c) rfl (fun _ _ => .inl (by simp)) harr⟩
  | panic ch => exact ⟨_, a₁, w₁, hq, .pass (x := .inLoop c) rfl (fun _ _ => .inl (by simp)) harr⟩
  | outgrown => exact ⟨_, a₁, w₁, hq, .pass (x := .inLoop c) rfl (fun _ _ => .inl (by simp)) harr⟩
theorem loop_of_LW {c : Code} {Q : Exit → Act → World → Prop} {a : Act} {w : World} (h : LW P c Q a w) : (Code.loop c).wp P Q a w :=
  fun b k cs => let ⟨e, a', w', hq, harr⟩ := h b k cs; ⟨e, a', w', hq, .of_steps (.one step_loop) harr⟩
theorem posN_spec {i : Nat} : ∀ {L : List Nat} {n k : Nat}, posN i L n = some k → ∃ m, k = n + m ∧ L[m]? = some i := by
  intro L
  induction L with
  | nil => intro n k h; cases h
  | cons x L ih =>
    intro n k h
    simp only [posN] at h
    split at h
    · rename_i hb; cases h; exact ⟨0, rfl, by simp [Nat.eq_of_beq_eq_true hb]⟩
    · obtain ⟨m, h1, h2⟩ := ih h; exact ⟨m + 1, by omega, by simpa using h2⟩
theorem evS_spec {e : GEnv} : ∀ {L : List Nat} {vs : List Value}, evS e L = some vs → ∀ (m i : Nat), L[m]? = some i → e i = .val (tup vs m) := by
  intro L
  induction L with
  | nil => intro vs _ m i h; simp at h
  | cons x L ih =>
    intro vs h m i hm
    simp only [evS] at h
    split at h
    · rename_i v hv
      split at h
      · rename_i vs' hvs
        cases h
        cases m with
        | zero => simp at hm; subst hm; exact hv
        | succ m => exact ih hvs m i (by simpa using hm)
      · cases h
    · cases h
theorem Rel.weaken {e e' : GEnv} {h : GH} {a : Act} {w : World} (r : Rel N h0 w0 e h a w) (he : ∀ i g, e' i = g → g ≠ .unk → e i = g) : Rel N h0 w0 e' h a w :=
  ⟨⟨fun i v hv => r.env.val i v (he i _ hv (by simp)), fun i hv => r.env.skip i (he i _ hv (by simp))⟩, r.size, r.defers, r.sub, r.step⟩
theorem envOf_sub {e : GEnv} {L : List Nat} {vs : List Value} (h : evS e L = some vs) (i : Nat) (g : GV) (hg : envOf L (tup vs) i = g) (hu : g ≠ .unk) : e i = g := by
  unfold envOf at hg
  split at hg
  · rename_i k hk
    obtain ⟨m, rfl, hm⟩ := posN_spec hk
    rw [evS_spec h m i hm, ← hg]; simp
  · exact absurd hg.symm hu
theorem gwp_sound (hm : P.follows .mixedOrders = true) : ∀ (c : Code) (b : Nat) (Q : Post) (e : GEnv) (h : GH) (a : Act) (w : World), dstsB N c = true → Rel N h0 w0 e h a w → gwp P A b c Q e h → c.wp P (QW N h0 w0 Q) a w := by
  intro c
  induction c with
  | skip => intro b Q e h a w _ r g; exact wp_skip ⟨.normal, e, h, trivial, r, g⟩
  | region id ops draw =>
    intro b Q e h a w hd r g
    simp only [dstsB, List.all_eq_true] at hd
    have hd' : ∀ o ∈ ops.toList, ∀ k, o.dst = some k → k < N := by
      intro o ho k hk
      have := hd o ho
      simp only [hk] at this
      exact Nat.le_of_ble_eq_true this
    simp only [gwp] at g
    split at g
    · exact wp_region_list (gopsL_sound (fun e h a w q r => ⟨.normal, e, h, trivial, r, q⟩) ops.toList hd' e h a w r g)
    · split at g
      · rename_i hb
        refine gdr_region hb hm (fun i o k ho hk => hd' o ?_ k hk) (fun e h a w q r => ⟨.normal, e, h, trivial, r, q⟩) r (gdr_of_gdS _ _ _ _ g)
        exact Array.mem_toList_iff.2 (Array.mem_of_getElem? ho)
      · exact g.elim
  | seq x y ihx ihy =>
    intro b Q e h a w hd r g
    simp only [dstsB, Bool.and_eq_true] at hd
    exact wp_seq (wp_mono (ihx b _ e h a w hd.1 r g) fun x a w q => QW_then (fun e h a w r q => ihy b Q e h a w hd.2 r q) q)
  | cond c x y ihx ihy =>
    intro b Q e h a w hd r g
    simp only [dstsB, Bool.and_eq_true] at hd
    simp only [gwp] at g
    split at g
    · rename_i t
      split at g
      · rename_i v he
        unfold ifV at g
        split at g
        · rename_i bb
          have hev : a.eval (.tmp t) = .bool bb := evO_sound r.env (by simp [evO, he])
          split at g
          · rw [setE_self he] at g; exact wp_cond_true hev (ihx b Q e h a w hd.1 r g)
          · rw [setE_self he] at g; exact wp_cond_false hev (ihy b Q e h a w hd.2 r g)
        · exact g.elim
      · exact g.elim
    · rename_i v
      unfold ifV at g
      split at g
      · split at g
        · exact wp_cond_true rfl (ihx b Q e h a w hd.1 r g)
        · exact wp_cond_false rfl (ihy b Q e h a w hd.2 r g)
      · exact g.elim
    · exact g.elim
  | block id c ih =>
    intro b Q e h a w hd r g
    exact wp_block (wp_mono (ih id _ e h a w hd r g) fun x a w q => QW_block q)
  | loop c ih =>
    intro b Q e h a w hd r g
    simp only [gwp] at g
    split at g
    · rename_i vs hvs
      refine loop_of_LW ?_
      refine g (fun s h => ∀ a w, Rel N h0 w0 (envOf (A.loop b) s) h a w → LW P c (QW N h0 w0 Q) a w) ?_ a w (r.weaken (envOf_sub hvs))
      intro s h q a w r
      refine LW_unroll (wp_mono (ih b _ _ h a w hd r q) fun x a w q => QW_then (fun e' h' a w r q => ?_) q)
      split at q
      · rename_i vs' hvs'
        exact q a w (r.weaken (envOf_sub hvs'))
      · exact q.elim
    · exact g.elim
  | exit id => intro b Q e h a w _ r g; exact wp_exit ⟨.exit id, e, h, rfl, r, g⟩
  | ret => intro b Q e h a w _ r g; exact wp_ret ⟨.ret, e, h, trivial, r, g⟩
  | rangeFunc => intro b Q e h a w _ r g; exact g.elim
  | scope => intro b Q e h a w _ r g; exact g.elim
  | label => intro b Q e h a w _ r g; exact g.elim
  | goto => intro b Q e h a w _ r g; exact g.elim
  | refuse => intro b Q e h a w _ r g; exact g.elim
def finV (vs : List Value) (h : GH) (K : Value → GH → Prop) : Prop := match vs with | [v] => K v h | vs => K (.tuple vs.toArray) h
def retL (P : Program) : List ResultVar → GEnv → GH → (List Value → Prop) → Prop
  | [], _, _, K => K []
  | .tmp t :: r, e, h, K => (match e t with | .val v => retL P r e h fun vs => K (v :: vs) | _ => False)
  | .cell a t :: r, e, h, K => (match e a, szK P t with | .val p, some (n, g) => bnd (ldV n g p h) fun v => retL P r e h fun vs => K (v :: vs) | _, _ => False)
def fnQ (P : Program) (fn : Func) (K : Value → GH → Prop) : Post := fun x e h =>
  match x with
  | .exit _ => False
  | .normal => retL P fn.results.toList e h fun vs => finV vs h K
  | .ret => retL P fn.results.toList e h fun vs => finV vs h K
def bodyOf (fn : Func) : Code := match fn.body with | some c => c | none => .skip
def argsE (args : List Value) : GEnv := fun i => match args[i]? with | some v => .val v | none => .unk
theorem retL_sound {tmps : Array Value} {e : GEnv} {h : GH} {w : World} (he : ESub e tmps) (s : Sub h w) : ∀ (rs : List ResultVar) (K : List Value → Prop), retL P rs e h K →
    ∃ vs, K vs ∧ (rs.mapM fun r => (match r with | .tmp t => pure (tmps.getD t undef) | .cell a t => do loadVar t (← asAddr (tmps.getD a undef)) : Sem Value)).run P w = .ok vs w := by
  intro rs
  induction rs with
  | nil => intro K g; exact ⟨[], g, by simp⟩
  | cons r rs ih =>
    intro K g
    cases r with
    | tmp t =>
      simp only [retL] at g
      split at g
      · rename_i v hv
        obtain ⟨vs, k, hr⟩ := ih _ g
        refine ⟨v :: vs, k, ?_⟩
        have hd : tmps.getD t undef = v := by simp [Array.getD_eq_getD_getElem?, he.val t v hv]
        rw [List.mapM_cons]
        simp only [Sem.run_bind, Sem.run_pure, Result.andThen_ok, hr, hd]
      · exact g.elim
    | cell c t =>
      simp only [retL] at g
      split at g
      · rename_i p n gg hp hs
        obtain ⟨v, hv, g⟩ := bnd_iff.1 g
        obtain ⟨vs, k, hr⟩ := ih _ g
        refine ⟨v :: vs, k, ?_⟩
        have hd : tmps.getD c undef = p := by simp [Array.getD_eq_getD_getElem?, he.val c p hp]
        have hld := run_loadAt (P := P) hs s hv
        unfold ldV at hv
        split at hv
        · rename_i bk off
          simp only [Instr.loadAt, Instr.sureAddr, Sem.run_bind, Sem.run_pure, Result.andThen_ok] at hld
          have hadr : (asAddr (tmps.getD c undef)).run P w = .ok ⟨bk, off, none⟩ w := by rw [hd]; rfl
          rw [List.mapM_cons]
          simp only [Sem.run_bind, hadr, Sem.run_pure, Result.andThen_ok, hld, hr]
        · cases hv
      · exact g.elim
theorem T_of_gwp {f : FuncId} {fn : Func} {c : Code} {args : List Value} {h : GH} {K : Value → GH → Prop} (hf : P.funcs[f]? = some fn) (hb : fn.body = some c) (hm : P.follows .mixedOrders = true)
    (hname : (fn.name == "runtime.NumGoroutine") = false) (hd : dstsB fn.ntmps c = true) (hl : Nat.ble args.length fn.ntmps = true) (g : gwp P A 0 c (fnQ P fn K) (argsE args) h) : T P f args h K := by
  refine ⟨⟨fn, hf, hname, by simp [hb]⟩, fun w s => ?_⟩
  have hl := Nat.le_of_ble_eq_true hl
  refine calls_of_wp hf hb ?_
  have r : Rel fn.ntmps h w (argsE args) h { tmps := args.toArray ++ Array.replicate (fn.ntmps - args.toArray.size) undef, defers := [] } w := by
    refine ⟨⟨fun i v hv => ?_, fun i hv => ?_⟩, by simp; omega, rfl, s, .refl _ _⟩
    · unfold argsE at hv
      split at hv
      · rename_i u hu; cases hv
        have hlt : i < args.length := (List.getElem?_eq_some_iff.1 hu).1
        simp only
        rw [Array.getElem?_append_left (by simpa using hlt)]
        simpa using hu
      · cases hv
    · unfold argsE at hv
      split at hv <;> cases hv
  refine wp_mono (gwp_sound hm c 0 _ _ _ _ _ hd r g) fun x a w' q => ?_
  obtain ⟨ex, e', h', hx, r', q⟩ := q
  have fin : ∀ {vs : List Value}, retL P fn.results.toList e' h' (fun vs => finV vs h' K) → a.defers = [] ∧ ∃ v, (results fn a.tmps).run P w' = .ok v w' ∧ ∃ u h', Ending.returned v = .returned u ∧ Sub h' w' ∧ Step h w h' w' ∧ K u h' := by
    intro _ q
    refine ⟨r'.defers, ?_⟩
    obtain ⟨vs, k, hr⟩ := retL_sound r'.env r'.sub _ _ q
    have hrun : (results fn a.tmps).run P w' = .ok (if h : vs.toArray.size = 1 then vs.toArray[0] else .tuple vs.toArray) w' := by
      unfold results
      rw [Array.mapM_eq_mapM_toList]
      simp only [Sem.run_bind, Sem.run_map, Sem.run_pure]
      exact (congrArg (fun q : Result (List Value) => (q.andThen fun a w' => Result.ok a.toArray w').andThen fun a w' => Result.ok (if h : a.size = 1 then a[0] else Value.tuple a) w') hr).trans rfl
    refine ⟨_, hrun, _, h', rfl, r'.sub, r'.step, ?_⟩
    unfold finV at k
    split at k
    · simpa using k
    · rename_i hne
      rw [dif_neg]
      · exact k
      · intro hsz
        simp only [List.size_toArray] at hsz
        obtain ⟨v, rfl⟩ := List.length_eq_one_iff.1 hsz
        exact hne v rfl
  cases x <;> cases ex <;> simp only [exM] at hx
  · exact fin (vs := []) q
  · exact q.elim
  · exact fin (vs := []) q
end
end Go.Proofs.YtcpfkkppfgolaaaGreatDoor.GW
