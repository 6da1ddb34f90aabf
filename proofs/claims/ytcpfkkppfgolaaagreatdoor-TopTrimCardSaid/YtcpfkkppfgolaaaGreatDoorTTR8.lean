/- Several texts in one; nothing here is a statement on the program. -/
import Derived.Test.YtcpfkkppfgolaaaGreatDoorTTR7
set_option linter.unusedVariables false
set_option linter.unusedSimpArgs false
namespace Go.Proofs.YtcpfkkppfgolaaaGreatDoor
open Go GW Go.Proofs
attribute [local irreducible] bnd ldV stV ifV binV eqI
attribute [local irreducible] tiV
set_option maxRecDepth 20000
theorem Vw.set_k {v : Vw} (o : v.ok) {i : Nat} (h : i < 16) (x : Bool) : v.cells.set i (.bool x) = Vw.cells { v with k := v.k.set i x } := by
  have := o.lk
  unfold Vw.cells
  rw [List.set_append_left _ _ (by simp; omega), List.map_set]
theorem Vw.set_w {v : Vw} (o : v.ok) {i : Nat} (h : i < 16) (x : Int) : v.cells.set (16 + i) (i64 x) = Vw.cells { v with w := v.w.set i x } := by
  have := o.lk; have := o.lw
  unfold Vw.cells
  rw [List.set_append_right _ _ (by simp; omega), List.set_append_left _ _ (by simp; omega), List.map_set]
  congr 2
  have e : 16 + i - (v.k.map Value.bool).length = i := by simp; omega
  rw [e]; rfl
theorem Vw.set_n0 {v : Vw} (o : v.ok) {i : Nat} (h : i < 16) (x : Int) : v.cells.set (32 + i) (i64 x) = Vw.cells { v with n := v.n.set i x } := by
  have := Vw.set_n (t := []) o h x
  simpa using this
section
variable {a b c rb : Nat} {A : Ar} {R : List Part} {h : GH} {K : Value → GH → Prop} {x : At} {r : Rd} {v : Vw}
theorem T_atKnown {opv asv now ansv : Value} {nd : Int} (hp : All (pts b (atRow x opv nd v asv now ansv) :: readP rb r :: rowP 4 opv (x.ops.map Op.enc) :: rowP 2 ansv (x.ans.map Answer.enc) :: R) h) (o : At.ok { x with st := .wr ⟨0, []⟩ }) (vok : v.ok) (hv : Vw.val r.value) (c0 : 0 ≤ r.cell) (c1 : r.cell < 16)
    (hK : ∀ h', All (attP b (x.known v r.cell r.value) :: R) h' → K (.tuple #[]) h') : T Tryz.prog 165 [ptr b, ptr rb] h K := by
  apply S165_T
  unfold S165
  refine bnd_of rfl (bnd_of rfl (bnd_of rfl ?_))
  refine la0 hp (c := v.cells) (by simp [Vw.len vok]) (view_take (p := [i64 x.t, i64 x.q, i64 x.slot, i64 x.gen, opv, i64 nd]) vok) ?_
  refine nwstView hp vok fun vb h1 hp => ?_
  refine wk ?_
  replace hp := hp.up 2
  replace hp := hn hp
  refine T_rdCell hp ?_
  obtain ⟨i, hi⟩ := Int.eq_ofNat_of_zero_le c0
  have hi16 : i < 16 := by omega
  rw [hi]
  refine bnd_of (iaV_at hi16 .i64) ?_
  refine T_rdCell hp ?_
  rw [hi]
  refine T_rdCell hp ?_
  rw [hi]
  refine T_rdValue hp ?_
  refine T_rdValue hp ?_
  replace hp := hp.re 5 [1, 2, 3, 4]
  replace hp := hn hp
  have k1 : (Vw.ok { v with k := v.k.set i true }) := ⟨by simp [vok.lk], vok.lw, vok.ln, vok.rw, vok.rn⟩
  have k2 : (Vw.ok { v with k := v.k.set i true, w := v.w.set i r.value }) := ⟨by simp [vok.lk], by simp [vok.lw], vok.ln, fun y hy => by
    rcases List.mem_or_eq_of_mem_set hy with q | q
    · exact vok.rw y q
    · rw [q]; exact hv, vok.rn⟩
  have k3 : (v.know r.cell r.value).ok := Vw.know_ok vok hv
  have ek : v.know r.cell r.value = { v with k := v.k.set i true, w := v.w.set i r.value, n := v.n.set i r.value } := by unfold Vw.know; rw [hi]; rfl
  refine st0 hp (vwRow { v with k := v.k.set i true }) rfl (by simp [Vw.len vok]; omega) rfl ?_ fun h2 hp => ?_
  · show GObj.row _ (v.cells.set (0 + 0 + i * 1) (.bool true)) _ _ = _
    rw [show 0 + 0 + i * 1 = i by omega, Vw.set_k vok hi16]; rfl
  refine bnd_of (iaV_at hi16 .i64) ?_
  refine st0 hp (vwRow { v with k := v.k.set i true, w := v.w.set i r.value }) rfl (by simp [Vw.len k1]; omega) rfl ?_ fun h3 hp => ?_
  · show GObj.row _ ((Vw.cells { v with k := v.k.set i true }).set (0 + 16 + i * 1) (i64 r.value)) _ _ = _
    rw [Nat.mul_one, Nat.zero_add, Vw.set_w k1 hi16]; rfl
  refine bnd_of (iaV_at hi16 .i64) ?_
  refine st0 hp (vwRow (v.know r.cell r.value)) rfl (by simp [Vw.len k2]; omega) rfl ?_ fun h4 hp => ?_
  · show GObj.row _ ((Vw.cells { v with k := v.k.set i true, w := v.w.set i r.value }).set (0 + 32 + i * 1) (i64 r.value)) _ _ = _
    rw [Nat.mul_one, Nat.zero_add, Vw.set_n0 k2 hi16, ek]; rfl
  unfold At.known at hK
  clear ek
  generalize v.know r.cell r.value = u at hp hK k3
  refine la0 hp (c := u.cells) (by simp [Vw.len k3]) (Vw.agg_take k3) ?_
  refine wk ?_
  replace hp := hp.re 4 [1, 2, 3]
  replace hp := hn hp
  refine T_bodyDo hp k3 (fun h' hp => All.rows (hp.up 1)) (fun q => absurd o.ops (by rw [show At.ops { x with st := .wr ⟨0, []⟩ } = x.ops from rfl, q]; decide)) fun _ uv h5 hp => ?_
  have d := Vw.do_ok k3 o.ops
  simp only at d
  generalize u.do_ x.ops = m at hp hK d
  refine askP_open hp fun s eu hp => ?_
  have hs := rowP_one hp
  rw [eu]
  refine wk ?_
  replace hp := hp.up 1
  replace hp := hn hp
  have hl := askC_len (x := needN m.need) (s := s) d.1
  have hl0 := askC_len (x := nd) (s := asv) vok
  have erow : ∀ (nd : Int) (v : Vw) (asv : Value), ([i64 x.t, i64 x.q, i64 x.slot, i64 x.gen, opv, i64 nd] ++ (v.cells ++ [asv, now, i64 x.ts, i64 x.tg, .bool x.won, .bool x.over, ansv]) : List Value) = [i64 x.t, i64 x.q, i64 x.slot, i64 x.gen, opv] ++ (askC nd v asv ++ [now, i64 x.ts, i64 x.tg, .bool x.won, .bool x.over, ansv]) := fun nd v asv => by simp [askC]
  refine st0 hp (atRow x opv (needN m.need) m.view s now ansv) ?_ (by simp [Vw.len vok]) ?_ ?_ fun h6 hp => ?_
  · show (askC (needN m.need) m.view s).toArray.size = 50
    rw [List.size_toArray, hl]
  · show (askC (needN m.need) m.view s).toArray.toList.all oneCell = true
    simp only [askC, List.all_cons, List.all_append, List.all_nil, Bool.and_true, Vw.one_cells, hs.1]; rfl
  · show GObj.row _ (setCells ([i64 x.t, i64 x.q, i64 x.slot, i64 x.gen, opv, i64 nd] ++ (v.cells ++ [asv, now, i64 x.ts, i64 x.tg, .bool x.won, .bool x.over, ansv])) ([i64 x.t, i64 x.q, i64 x.slot, i64 x.gen, opv] : List Value).length (askC (needN m.need) m.view s).toArray.toList) _ _ = _
    rw [erow, List.toList_toArray, setCells_mid (by rw [hl, hl0]), ← erow]; rfl
  refine T_atAsked (x := { x with st := .wr ⟨0, []⟩ }) hp o d.1 (fun c e => (d.2 c e).1) fun nw h7 k1 k2 => ?_
  refine wk ?_
  cases hm : m.need with
  | some c =>
    have hp := k1 c hm
    rw [hm] at hp
    obtain ⟨nb, rfl⟩ : ∃ nb, nw = .iface 271 (ptr nb) := All.case hp fun h1 p _ => by obtain ⟨nb, e, _⟩ := p; exact ⟨nb, e⟩
    replace hp := hp.up 1
    replace hp := hn hp
    refine stT hp (atRow x opv c m.view s (.iface 271 (ptr nb)) ansv) d.1 ⟨rfl, rfl⟩ rfl rfl rfl fun h8 hp => ?_
    replace hp := hp.re 4 [0, 2, 3, 1]
    replace hp := hn hp
    have hk : x.asked m = { x with st := .rd (.new x.t x.q c) m.view } := by unfold At.asked; rw [hm]
    rw [hk] at hK
    exact hK _ (attP_shut (x := { x with st := .rd (.new x.t x.q c) m.view }) (opv := opv) (nd := c) (v := m.view) (asv := s) (now := .iface 271 (ptr nb)) (ansv := ansv) d.1 rfl hp)
  | none =>
    have hp := k2 hm
    obtain ⟨nb, rfl⟩ : ∃ nb, nw = .iface 273 (ptr nb) := All.case hp fun h1 p _ => by obtain ⟨nb, e, _⟩ := p; exact ⟨nb, e⟩
    replace hp := hp.up 1
    replace hp := hn hp
    refine stT hp (atRow x opv (-1) m.view s (.iface 273 (ptr nb)) s) d.1 ⟨rfl, rfl⟩ rfl rfl rfl fun h8 hp => ?_
    replace hp := hp.re 5 [0, 3, 2, 1]
    replace hp := hn hp
    have hk : x.asked m = { x with st := .wr (newWr x.slot x.gen m.view.rows), ans := m.ans } := by unfold At.asked; rw [hm]
    rw [hk] at hK
    exact hK _ (attP_shut (x := { x with st := .wr (newWr x.slot x.gen m.view.rows), ans := m.ans }) (opv := opv) (nd := -1) (v := m.view) (asv := s) (now := .iface 273 (ptr nb)) (ansv := s) d.1 trivial hp)
end
end Go.Proofs.YtcpfkkppfgolaaaGreatDoor
namespace Go.Proofs.YtcpfkkppfgolaaaGreatDoor
open Go GW Go.Proofs
attribute [local irreducible] bnd ldV stV ifV binV eqI
attribute [local irreducible] tiV
set_option maxRecDepth 20000
theorem missing_some {want : Array (String × TypeId)} {got : Array Method} (h : (want.toList.filter fun (name, sig) => !got.any fun m => m.name == name && m.sig == sig).isEmpty = false) : ∃ s, Instr.missingMethod want got = some s := by
  unfold Instr.missingMethod
  simp only
  generalize hl : (want.toList.filter fun (name, sig) => !got.any fun m => m.name == name && m.sig == sig) = l at h
  cases l with
  | nil => cases h
  | cons y ys =>
    have key : ∀ (u v : List String), u ++ v ≠ [] → ∃ s, (Instr.least v <|> Instr.least (u.map fun id => (id.splitOn ".").getLastD id)) = some s := by
      intro u v h
      cases v with
      | cons z zs => exact ⟨_, rfl⟩
      | nil => cases u with
        | nil => exact absurd rfl h
        | cons z zs => exact ⟨_, rfl⟩
    generalize hm : List.map (·.1) (y :: ys) = m
    have hne : m ≠ [] := by rw [← hm]; simp
    have hp := List.partition_eq_filter_filter (p := fun (x : String) => x.contains '.') (l := m)
    rw [hp]
    refine key _ _ fun e => ?_
    rw [List.append_eq_nil_iff, List.filter_eq_nil_iff, List.filter_eq_nil_iff] at e
    cases m with
    | nil => exact hne rfl
    | cons z zs =>
      have e1 := e.1 z (by simp)
      have e2 := e.2 z (by simp)
      simp only [Function.comp_apply, Bool.not_eq_true, Bool.not_eq_true', Bool.not_eq_false] at e1 e2
      rw [e1] at e2; cases e2
theorem ti_not {P : Program} {want : Array (String × TypeId)} {zero x : Value} {t : TypeId} (h : (match P.info? t with | some i => !(want.toList.filter fun (name, sig) => !i.methods.any fun m => m.name == name && m.sig == sig).isEmpty | none => false) = true) : tiV P want zero true (.iface t x) = some (.tuple #[zero, .bool false]) := by
  unfold tiV
  cases hi : P.info? t with
  | none => rw [hi] at h; cases h
  | some i =>
    simp only [hi] at h ⊢
    obtain ⟨s, hs⟩ := missing_some (want := want) (got := i.methods) (by simpa using h)
    simp only [hs]
section
variable {a b c rb : Nat} {A : Ar} {R : List Part} {h : GH} {K : Value → GH → Prop} {x : At} {r : Rd} {v : Vw}
theorem IV_rdStep {r : Rd} (k : T Tryz.prog 238 [ptr b, ptr a] h K) : ivV Tryz.prog (.iface 271 (ptr b)) "Step" [ptr a] h K :=
  ⟨_, _, fun w => (by kernel_rfl : (method (Tryz.prog.types.size + Made.depth) 271 (ptr b) "Step").run Tryz.prog w = .ok (238, ptr b) w), k⟩
theorem IV_wrStep (k : T Tryz.prog 245 [ptr b, ptr a] h K) : ivV Tryz.prog (.iface 273 (ptr b)) "Step" [ptr a] h K :=
  ⟨_, _, fun w => (by kernel_rfl : (method (Tryz.prog.types.size + Made.depth) 273 (ptr b) "Step").run Tryz.prog w = .ok (245, ptr b) w), k⟩
theorem IV_hpStep (k : T Tryz.prog 242 [ptr b, ptr a] h K) : ivV Tryz.prog (.iface 274 (ptr b)) "Step" [ptr a] h K :=
  ⟨_, _, fun w => (by kernel_rfl : (method (Tryz.prog.types.size + Made.depth) 274 (ptr b) "Step").run Tryz.prog w = .ok (242, ptr b) w), k⟩
theorem IV_rdThrough (k : T Tryz.prog 239 [ptr b] h K) : ivV Tryz.prog (.iface 271 (ptr b)) "Through" [] h K :=
  ⟨_, _, fun w => (by kernel_rfl : (method (Tryz.prog.types.size + Made.depth) 271 (ptr b) "Through").run Tryz.prog w = .ok (239, ptr b) w), k⟩
theorem IV_rdSeq (k : T Tryz.prog 237 [ptr b] h K) : ivV Tryz.prog (.iface 271 (ptr b)) "Seq" [] h K :=
  ⟨_, _, fun w => (by kernel_rfl : (method (Tryz.prog.types.size + Made.depth) 271 (ptr b) "Seq").run Tryz.prog w = .ok (237, ptr b) w), k⟩
theorem IV_hpThrough (k : T Tryz.prog 243 [ptr b] h K) : ivV Tryz.prog (.iface 274 (ptr b)) "Through" [] h K :=
  ⟨_, _, fun w => (by kernel_rfl : (method (Tryz.prog.types.size + Made.depth) 274 (ptr b) "Through").run Tryz.prog w = .ok (243, ptr b) w), k⟩
theorem IV_hpSeq (k : T Tryz.prog 244 [ptr b] h K) : ivV Tryz.prog (.iface 274 (ptr b)) "Seq" [] h K :=
  ⟨_, _, fun w => (by kernel_rfl : (method (Tryz.prog.types.size + Made.depth) 274 (ptr b) "Seq").run Tryz.prog w = .ok (244, ptr b) w), k⟩
theorem T_atStep (hp : All (arP 142 a A :: attP b x :: R) h) (o : x.ok)
    (hK : ∀ h', All (arP 142 a (x.step A).2.2 :: attP b (x.step A).1 :: R) h' → K (.tuple #[.bool (x.step A).1.over, i64 (x.step A).2.1]) h') : T Tryz.prog 150 [ptr b, ptr a] h K := by
  apply S150_T
  unfold S150
  refine wk ?_
  unfold S150_j1
  refine wk ?_
  have hp0 := hp
  refine attP_open (hp.up 1) fun opv nd v asv now ansv vok hs hp => ?_
  replace hp := Go.Proofs.YtcpfkkppfgolaaaGreatDoor.hn hp
  refine ldT hp vok rfl rfl ?_
  unfold At.step at hK
  cases ho : x.over with
  | true =>
    rw [ho] at hK
    refine wk ?_
    rw [if_pos rfl, ho] at hK
    exact hK _ hp0
  | false =>
    clear hp0
    rw [if_neg (by rw [ho]; decide)] at hK
    refine wk ?_
    unfold S150_j2
    refine wk ?_
    refine ldT hp vok rfl rfl ?_
    have hst := o.st
    have hA := (arP.at (hp.up 4)).2
    cases hst2 : x.st with
    | rd r u =>
      rw [hst2] at hK hst hs hp
      simp only at hK
      obtain rfl : u = v := hs
      obtain ⟨rok, _, rov⟩ := hst
      obtain ⟨rb, rfl⟩ : ∃ rb, now = .iface 271 (ptr rb) := All.case (hp.up 3) fun h1 p _ => by obtain ⟨nb, e, _⟩ := p; exact ⟨nb, e⟩
      replace hp : All (readP rb r :: arP 142 a A :: pts b (atRow x opv nd u asv (.iface 271 (ptr rb)) ansv) :: rowP 4 opv (x.ops.map Op.enc) :: rowP 2 ansv (x.ans.map Answer.enc) :: R) h := (hp.re 5 [3, 4, 0, 1, 2]).head fun _ ⟨nb, e, p⟩ => by cases e; exact p
      refine IV_rdStep (r := r) ?_
      replace hp := hp.up 1
      replace hp := Go.Proofs.YtcpfkkppfgolaaaGreatDoor.hn hp
      have so := Rd.step_ok rok hA
      have sv := Rd.step_val (r := r) (A := A) (rov ho)
      have sk := Rd.step_keep (r := r) (A := A)
      have se := Rd.step_err (r := r) (A := A)
      refine T_rdStep hp rok fun h1 hp => ?_
      generalize r.step A = s at hp hK so sv sk se ⊢
      obtain ⟨s1, e1, A1⟩ := s
      simp only at hp hK so sv sk se ⊢
      replace hp := hp.re 3 [2, 1, 0]
      replace hp := Go.Proofs.YtcpfkkppfgolaaaGreatDoor.hn hp
      refine wk ?_
      refine stT hp (atRow { x with ts := x.slot } opv nd u asv (.iface 271 (ptr rb)) ansv) vok ⟨rfl, rfl⟩ rfl rfl rfl fun h2 hp => ?_
      refine wk ?_
      refine stT hp (atRow { x with ts := x.slot, tg := x.gen } opv nd u asv (.iface 271 (ptr rb)) ansv) vok ⟨rfl, rfl⟩ rfl rfl rfl fun h3 hp => ?_
      refine wk ?_
      refine ldT hp vok rfl rfl ?_
      refine wK (v := .tuple #[.iface 271 (ptr rb), .bool true]) (by kernel_rfl) ?_
      refine wk ?_
      refine IV_rdThrough ?_
      refine T_rdThrough (hp.up 1) ?_
      refine wk ?_
      refine stT hp (atRow { x with ts := s1.slot, tg := x.gen } opv nd u asv (.iface 271 (ptr rb)) ansv) vok ⟨rfl, rfl⟩ rfl rfl rfl fun h4 hp => ?_
      refine wk ?_
      refine stT hp (atRow { x with ts := s1.slot, tg := s1.gen } opv nd u asv (.iface 271 (ptr rb)) ansv) vok ⟨rfl, rfl⟩ rfl rfl rfl fun h5 hp => ?_
      refine IV_rdSeq ?_
      refine T_rdSeq (hp.up 1) ?_
      refine wk ?_
      refine st0 hp (atRow { x with q := s1.q, ts := s1.slot, tg := s1.gen } opv nd u asv (.iface 271 (ptr rb)) ansv) rfl (by simp [Vw.len vok]) rfl rfl fun h6 hp => ?_
      unfold S150_j3
      have hshut : ∀ {h'} {y : At} {R' : List Part}, y.st = .rd s1 u → All (pts b (atRow y opv nd u asv (.iface 271 (ptr rb)) ansv) :: readP rb s1 :: rowP 4 opv (y.ops.map Op.enc) :: rowP 2 ansv (y.ans.map Answer.enc) :: R') h' → All (attP b y :: R') h' := by
        intro h' y R' ey hp
        refine attP_shut (x := y) (opv := opv) (nd := nd) (v := u) (asv := asv) (now := .iface 271 (ptr rb)) (ansv := ansv) vok (by rw [ey]; rfl) ?_
        rw [ey]
        have := All.head (Q := stP (.iface 271 (ptr rb)) (.rd s1 u)) (hp.re 4 [1, 0, 2, 3]) fun _ z => ⟨rb, rfl, z⟩
        exact this.re 4 [1, 2, 3, 0]
      refine wk ?_
      refine ifN_cases (fun q => ?_) fun q => ?_
      · rw [if_pos q] at hK
        refine wk ?_
        refine stT hp (atRow { x with q := s1.q, ts := s1.slot, tg := s1.gen, over := true } opv nd u asv (.iface 271 (ptr rb)) ansv) vok ⟨rfl, rfl⟩ rfl rfl rfl fun h7 hp => ?_
        replace hp := hp.re 5 [2, 0, 1, 3, 4]
        replace hp := Go.Proofs.YtcpfkkppfgolaaaGreatDoor.hn hp
        refine hK _ ?_
        exact (hshut (y := { x with q := s1.q, ts := s1.slot, tg := s1.gen, st := .rd s1 u, over := true }) rfl (hp.re 5 [1, 2, 3, 4, 0])).up 1
      · rw [if_neg (by simpa using q)] at hK
        cases hov : s1.over with
        | false =>
          rw [hov, if_neg (by decide)] at hK
          refine wk ?_
          replace hp := hp.re 5 [0, 1, 3, 4, 2]
          replace hp := Go.Proofs.YtcpfkkppfgolaaaGreatDoor.hn hp
          have := hK _ ((hshut (y := { x with q := s1.q, ts := s1.slot, tg := s1.gen, st := .rd s1 u }) rfl hp).up 1)
          simp only [ho] at this
          exact this
        | true =>
          rw [hov, if_pos rfl] at hK
          obtain ⟨hv, _⟩ := sv q hov
          refine wk ?_
          refine ldT hp vok rfl rfl ?_
          refine wk ?_
          replace hp := hp.re 5 [0, 1, 3, 4, 2]
          replace hp := Go.Proofs.YtcpfkkppfgolaaaGreatDoor.hn hp
          have o1 : At.ok { x with q := s1.q, ts := s1.slot, tg := s1.gen, st := .wr ⟨0, []⟩ } := ⟨o.t0, o.t1, so.1.q0, so.1.q1, o.life, o.ops, o.won, ⟨by simp, by simp, fun _ h => by cases h⟩⟩
          have ao := (At.asked_ok o1 ho (Vw.know_ok (c := s1.cell) vok hv)).2
          refine T_atKnown (x := { x with q := s1.q, ts := s1.slot, tg := s1.gen, st := .rd s1 u }) hp o1 vok hv so.1.c0 so.1.c1 fun h7 hp => ?_
          have ek : At.over (At.known { x with q := s1.q, ts := s1.slot, tg := s1.gen, st := .rd s1 u } u s1.cell s1.value) = false := by
            unfold At.known At.asked at ao ⊢
            simp only at ao ⊢
            cases hn : ((u.know s1.cell s1.value).do_ x.ops).need with
            | some c => rw [hn] at ao; exact ao
            | none => rw [hn] at ao; exact ao
          rw [ek] at hK
          generalize At.known { x with q := s1.q, ts := s1.slot, tg := s1.gen, st := .rd s1 u } u s1.cell s1.value = y at hp hK ek
          refine attP_open hp fun opv nd v asv now ansv vok hs hp => ?_
          refine wk ?_
          refine ldT hp vok rfl rfl ?_
          refine wk ?_
          rw [ek]
          exact hK _ ((attP_shut vok hs hp).up 1)
    | wr w =>
      rw [hst2] at hK hst hp
      simp only at hK
      obtain ⟨wb, rfl⟩ : ∃ rb, now = .iface 273 (ptr rb) := All.case (hp.up 3) fun h1 p _ => by obtain ⟨nb, e, _⟩ := p; exact ⟨nb, e⟩
      replace hp : All (pwP wb w :: arP 142 a A :: pts b (atRow x opv nd v asv (.iface 273 (ptr wb)) ansv) :: rowP 4 opv (x.ops.map Op.enc) :: rowP 2 ansv (x.ans.map Answer.enc) :: R) h := (hp.re 5 [3, 4, 0, 1, 2]).head fun _ ⟨nb, e, p⟩ => by cases e; exact p
      refine IV_wrStep ?_
      replace hp := hp.up 1
      replace hp := Go.Proofs.YtcpfkkppfgolaaaGreatDoor.hn hp
      refine T_pwStep hp hst fun h1 hp => ?_
      generalize w.step A = s at hp hK ⊢
      obtain ⟨w1, ov, A1⟩ := s
      simp only at hp hK ⊢
      replace hp := hp.re 3 [2, 1, 0]
      replace hp := Go.Proofs.YtcpfkkppfgolaaaGreatDoor.hn hp
      refine wk ?_
      refine stT hp (atRow { x with ts := x.slot } opv nd v asv (.iface 273 (ptr wb)) ansv) vok ⟨rfl, rfl⟩ rfl rfl rfl fun h2 hp => ?_
      refine wk ?_
      refine stT hp (atRow { x with ts := x.slot, tg := x.gen } opv nd v asv (.iface 273 (ptr wb)) ansv) vok ⟨rfl, rfl⟩ rfl rfl rfl fun h3 hp => ?_
      refine wk ?_
      refine ldT hp vok rfl rfl ?_
      refine wK (v := .tuple #[.nilIface, .bool false]) (ti_not (by kernel_rfl)) ?_
      refine wk ?_
      unfold S150_j3
      refine wk ?_
      cases ov with
      | false =>
        refine wk ?_
        replace hp := hp.re 5 [1, 0, 3, 4, 2]
        replace hp := Go.Proofs.YtcpfkkppfgolaaaGreatDoor.hn hp
        have hp2 := All.head (Q := stP (.iface 273 (ptr wb)) (.wr w1)) hp fun _ z => ⟨wb, rfl, z⟩
        have := hK _ ((attP_shut (x := { x with ts := x.slot, tg := x.gen, st := .wr w1 }) (opv := opv) (nd := nd) (v := v) (asv := asv) (now := .iface 273 (ptr wb)) (ansv := ansv) vok trivial (hp2.re 5 [1, 2, 3, 0, 4])).up 1)
        simp only [ho] at this
        exact this
      | true =>
        refine wk ?_
        refine ldT hp vok rfl rfl ?_
        refine wk ?_
        refine la0 hp (c := [i64 x.slot, i64 x.gen]) (by simp) rfl ?_
        have hl := o.life
        unfold lifeMay at hl
        simp only [decide_eq_true_eq] at hl
        have hmay : (Form.mcas x.slot x.gen).may = true := may_mcas.2 hl
        have hrd : read (Form.mcas x.slot x.gen).number = some (.mcas x.slot x.gen) := read_number hmay
        have hn : newHelp x.t x.q (Form.mcas x.slot x.gen).number = some (.new x.t x.q (.who (.new x.slot x.gen))) := by
          unfold newHelp
          rw [hrd]
          show (if 0 ≤ x.t ∧ x.t < 4 ∧ 0 ≤ x.q ∧ x.q < 1048576 then _ else _) = _
          rw [if_pos ⟨o.t0, o.t1, o.q0, o.q1⟩]
        refine T_Number_mcas hl ?_
        refine wk ?_
        replace hp := hp.re 5 [0, 3, 4, 2]
        replace hp := Go.Proofs.YtcpfkkppfgolaaaGreatDoor.hn hp
        refine T_New hp (by simp only [Form.number]; constructor <;> omega) (fun e => by rw [hn] at e; cases e) fun H e hb h4 hp => ?_
        rw [hn] at e
        cases e
        replace hp := hp.up 1
        replace hp := Go.Proofs.YtcpfkkppfgolaaaGreatDoor.hn hp
        refine wk ?_
        refine stT hp (atRow { x with ts := x.slot, tg := x.gen } opv nd v asv (.iface 274 (ptr hb)) ansv) vok ⟨rfl, rfl⟩ rfl rfl rfl fun h5 hp => ?_
        refine wk ?_
        refine ldT hp vok rfl rfl ?_
        refine wk ?_
        replace hp := hp.re 5 [1, 0, 2, 3, 4]
        replace hp := Go.Proofs.YtcpfkkppfgolaaaGreatDoor.hn hp
        have hp2 := All.head (Q := stP (.iface 274 (ptr hb)) (.hp (.new x.t x.q (.who (.new x.slot x.gen))))) hp fun _ z => ⟨hb, rfl, z⟩
        exact hK _ ((attP_shut (x := { x with ts := x.slot, tg := x.gen, st := .hp (.new x.t x.q (.who (.new x.slot x.gen))) }) (opv := opv) (nd := nd) (v := v) (asv := asv) (now := .iface 274 (ptr hb)) (ansv := ansv) vok trivial (hp2.re 5 [1, 2, 3, 0, 4])).up 1)
    | hp H =>
      rw [hst2] at hK hst hp
      simp only at hK
      obtain ⟨hok, _⟩ := hst
      obtain ⟨hb, rfl⟩ : ∃ rb, now = .iface 274 (ptr rb) := All.case (hp.up 3) fun h1 p _ => by obtain ⟨nb, e, _⟩ := p; exact ⟨nb, e⟩
      replace hp : All (helpP hb H :: arP 142 a A :: pts b (atRow x opv nd v asv (.iface 274 (ptr hb)) ansv) :: rowP 4 opv (x.ops.map Op.enc) :: rowP 2 ansv (x.ans.map Answer.enc) :: R) h := (hp.re 5 [3, 4, 0, 1, 2]).head fun _ ⟨nb, e, p⟩ => by cases e; exact p
      refine IV_hpStep ?_
      replace hp := hp.up 1
      replace hp := Go.Proofs.YtcpfkkppfgolaaaGreatDoor.hn hp
      refine T_Step hp hok fun h1 hp => ?_
      have se := Help.step_err (H := H) (A := A)
      generalize H.step A = s at hp hK se ⊢
      obtain ⟨s1, e1, A1⟩ := s
      simp only at hp hK se ⊢
      replace hp := hp.re 3 [2, 1, 0]
      replace hp := Go.Proofs.YtcpfkkppfgolaaaGreatDoor.hn hp
      refine wk ?_
      refine stT hp (atRow { x with ts := x.slot } opv nd v asv (.iface 274 (ptr hb)) ansv) vok ⟨rfl, rfl⟩ rfl rfl rfl fun h2 hp => ?_
      refine wk ?_
      refine stT hp (atRow { x with ts := x.slot, tg := x.gen } opv nd v asv (.iface 274 (ptr hb)) ansv) vok ⟨rfl, rfl⟩ rfl rfl rfl fun h3 hp => ?_
      refine wk ?_
      refine ldT hp vok rfl rfl ?_
      refine wK (v := .tuple #[.iface 274 (ptr hb), .bool true]) (by kernel_rfl) ?_
      refine wk ?_
      refine IV_hpThrough ?_
      refine T_Through (hp.up 1) ?_
      refine wk ?_
      refine stT hp (atRow { x with ts := s1.slot, tg := x.gen } opv nd v asv (.iface 274 (ptr hb)) ansv) vok ⟨rfl, rfl⟩ rfl rfl rfl fun h4 hp => ?_
      refine wk ?_
      refine stT hp (atRow { x with ts := s1.slot, tg := s1.gen } opv nd v asv (.iface 274 (ptr hb)) ansv) vok ⟨rfl, rfl⟩ rfl rfl rfl fun h5 hp => ?_
      refine IV_hpSeq ?_
      refine T_Seq (hp.up 1) ?_
      refine wk ?_
      refine st0 hp (atRow { x with q := s1.q, ts := s1.slot, tg := s1.gen } opv nd v asv (.iface 274 (ptr hb)) ansv) rfl (by simp [Vw.len vok]) rfl rfl fun h6 hp => ?_
      unfold S150_j3
      have hshut : ∀ {h'} {y : At} {R' : List Part}, y.st = .hp s1 → All (pts b (atRow y opv nd v asv (.iface 274 (ptr hb)) ansv) :: helpP hb s1 :: rowP 4 opv (y.ops.map Op.enc) :: rowP 2 ansv (y.ans.map Answer.enc) :: R') h' → All (attP b y :: R') h' := by
        intro h' y R' ey hp
        refine attP_shut (x := y) (opv := opv) (nd := nd) (v := v) (asv := asv) (now := .iface 274 (ptr hb)) (ansv := ansv) vok (by rw [ey]; trivial) ?_
        rw [ey]
        have := All.head (Q := stP (.iface 274 (ptr hb)) (.hp s1)) (hp.re 4 [1, 0, 2, 3]) fun _ z => ⟨hb, rfl, z⟩
        exact this.re 4 [1, 2, 3, 0]
      refine wk ?_
      refine ifN_cases (fun q => ?_) fun q => ?_
      · rw [if_pos q] at hK
        refine wk ?_
        refine stT hp (atRow { x with q := s1.q, ts := s1.slot, tg := s1.gen, over := true } opv nd v asv (.iface 274 (ptr hb)) ansv) vok ⟨rfl, rfl⟩ rfl rfl rfl fun h7 hp => ?_
        replace hp := hp.re 5 [0, 1, 3, 4, 2]
        replace hp := Go.Proofs.YtcpfkkppfgolaaaGreatDoor.hn hp
        refine hK _ ?_
        exact (hshut (y := { x with q := s1.q, ts := s1.slot, tg := s1.gen, st := .hp s1, over := true }) rfl hp).up 1
      · rw [if_neg (by simpa using q)] at hK
        cases hov : s1.over with
        | false =>
          rw [hov] at hK
          refine wk ?_
          replace hp := hp.re 5 [0, 1, 3, 4, 2]
          replace hp := Go.Proofs.YtcpfkkppfgolaaaGreatDoor.hn hp
          have hw := o.won ho
          have er : atRow { x with q := s1.q, ts := s1.slot, tg := s1.gen } opv nd v asv (.iface 274 (ptr hb)) ansv = atRow { x with q := s1.q, ts := s1.slot, tg := s1.gen, over := false, won := false } opv nd v asv (.iface 274 (ptr hb)) ansv := by
            unfold atRow; simp only [ho, hw]
          rw [er] at hp
          exact hK _ ((hshut (y := { x with q := s1.q, ts := s1.slot, tg := s1.gen, st := .hp s1, over := false, won := false && s1.won }) rfl hp).up 1)
        | true =>
          rw [hov] at hK
          refine wk ?_
          refine ldT hp vok rfl rfl ?_
          refine wk ?_
          refine T_Won (hp.up 1) ?_
          refine wk ?_
          refine stT hp (atRow { x with q := s1.q, ts := s1.slot, tg := s1.gen, won := s1.won } opv nd v asv (.iface 274 (ptr hb)) ansv) vok ⟨rfl, rfl⟩ rfl rfl rfl fun h7 hp => ?_
          refine wk ?_
          refine stT hp (atRow { x with q := s1.q, ts := s1.slot, tg := s1.gen, won := s1.won, over := true } opv nd v asv (.iface 274 (ptr hb)) ansv) vok ⟨rfl, rfl⟩ rfl rfl rfl fun h8 hp => ?_
          refine wk ?_
          refine ldT hp vok rfl rfl ?_
          refine wk ?_
          replace hp := hp.re 5 [0, 1, 3, 4, 2]
          replace hp := Go.Proofs.YtcpfkkppfgolaaaGreatDoor.hn hp
          exact hK _ ((hshut (y := { x with q := s1.q, ts := s1.slot, tg := s1.gen, st := .hp s1, over := true, won := true && s1.won }) rfl hp).up 1)
end
end Go.Proofs.YtcpfkkppfgolaaaGreatDoor
namespace Go.Proofs.YtcpfkkppfgolaaaGreatDoor
open Go GW Go.Proofs
attribute [local irreducible] bnd ldV stV ifV binV eqI
attribute [local irreducible] tiV
set_option maxRecDepth 20000
section
variable {a b c rb : Nat} {A : Ar} {R : List Part} {h : GH} {K : Value → GH → Prop} {x : At}
theorem T_atAnswers (hp : All (attP b x :: R) h) (hb : x.ans.length ≤ 1000) (hK : ∀ v' h', All (rowP 2 v' (x.ans.map Answer.enc) :: attP b x :: R) h' → K v' h') : T Tryz.prog 183 [ptr b] h K := by
  apply S183_T
  unfold S183
  refine attP_open hp fun opv nd v asv now ansv vok hs hp => ?_
  refine wk ?_
  refine ldT hp vok rfl rfl ?_
  replace hp := hp.up 2
  replace hp := hn hp
  refine T_CloneAnswers hp hb fun v' h1 hp => ?_
  replace hp := hp.re 5 [2, 3, 1, 4, 0]
  replace hp := hn hp
  exact hK _ _ ((attP_shut vok hs hp).up 1)
theorem T_atNew {t q slot gen : Int} {sv : Value} {ops : List Op} (hp : All R h) (hs : ∀ h', All R h' → rowsAt h' 4 sv (ops.map Op.enc)) (kn : ¬ At.may t q slot gen ops → ∀ h', All R h' → K (.tuple #[.pointer none, i64 1700]) h')
    (ky : At.may t q slot gen ops → ∀ b h', All (attP b (.new t q slot gen ops) :: R) h' → K (.tuple #[ptr b, i64 0]) h') : T Tryz.prog 149 [i64 t, i64 q, i64 slot, i64 gen, sv] h K := by
  apply S149_T
  unfold S149
  have ez : (.agg (List.replicate 16 (Value.bool false) ++ List.replicate 32 (Value.int .i64 0)).toArray : Value) = vwV vwZ := rfl
  refine wK (v := List.replicate 16 (Value.bool false) ++ List.replicate 32 (Value.int .i64 0)) rfl ?_
  rw [ez]
  have look : ∀ (ev : Int) (ab : Nat) (h1 : GH) (P : List Part), (∀ h', All (P ++ R) h' → All R h') → All (P ++ R) h1 → (ev = 0 ↔ Txn.may ops = true) → (At.may t q slot gen ops → ev = 0 → ∀ h1, All (P ++ R) h1 → S149_j1 (i64 t) (i64 q) (i64 slot) (i64 gen) sv (ptr ab) h1 K) →
      T Tryz.prog 101 [i64 t] h1 fun v9 h10 => bnd (unV .not v9) fun v11 => ifV v11 (K (.tuple #[.pointer none, .int .i64 1700]) h10) (T Tryz.prog 23 [i64 q, .int .i64 1048576] h10 fun v12 h13 => bnd (unV .not v12) fun v14 => ifV v14 (K (.tuple #[.pointer none, .int .i64 1700]) h13) (T Tryz.prog 163 [i64 slot, i64 gen] h13 fun v15 h16 => bnd (unV .not v15) fun v17 => ifV v17 (K (.tuple #[.pointer none, .int .i64 1700]) h16) (bnd (eqI (i64 ev) (.int .i64 0)) fun b18 => ifV (.bool (!b18)) (K (.tuple #[.pointer none, .int .i64 1700]) h16) (S149_j1 (i64 t) (i64 q) (i64 slot) (i64 gen) sv (ptr ab) h16 K)))) := by
    intro ev ab h1 P hP hp he go
    refine T_ThreadMay ?_
    refine wk ?_
    refine ifN_cases (fun c => ?_) fun c => ?_
    · exact kn (fun m => c m.1) _ (hP _ hp)
    refine T_Below ?_
    refine wk ?_
    refine ifN_cases (fun c2 => ?_) fun c2 => ?_
    · exact kn (fun m => c2 m.2.1) _ (hP _ hp)
    refine T_pLifeMay ?_
    refine wk ?_
    refine ifV_bool (fun c3 => ?_) fun c3 => ?_
    · exact kn (fun m => by rw [m.2.2.1] at c3; cases c3) _ (hP _ hp)
    refine wk ?_
    refine ifN_cases (fun c4 => ?_) fun c4 => ?_
    · exact kn (fun m => c4 (he.2 m.2.2.2)) _ (hP _ hp)
    exact go ⟨c, c2, by simpa using c3, he.1 c4⟩ c4 _ hp
  refine T_bodyDo hp vwZ_ok hs (fun hm h1 hp => ?_) fun hm u h1 hp => ?_
  · refine wk ?_
    refine nwstAsk hp vwZ_ok rfl fun kb h2 hp => ?_
    exact look 700 kb h2 [pts kb (.row 260 (askC 0 vwZ (.slice none 0 0)) 50 true)] (fun h' hp => hp.tail) hp ⟨fun e => by omega, fun e => by rw [hm] at e; cases e⟩ fun _ e => by omega
  · obtain ⟨c, c0, c1, em⟩ := vwZ_do hm
    rw [em] at hp
    refine askP_open hp fun s eu hp => ?_
    have hs1 := rowP_one hp
    rw [eu]
    refine wk ?_
    refine nwstAsk hp vwZ_ok hs1.1 fun kb h2 hp => ?_
    refine look 0 kb h2 [pts kb (.row 260 (askC (needN (some c)) vwZ s) 50 true), rowP 2 s []] (fun h' hp => hp.tail.tail) hp ⟨fun _ => hm, fun _ => rfl⟩ fun m _ h3 hp => ?_
    unfold S149_j1
    refine wk ?_
    refine la0 hp (c := askC c vwZ s) (by rw [askC_len vwZ_ok]; decide) (askC_take vwZ_ok) ?_
    have hne : ops ≠ [] := fun e => by rw [e] at hm; cases hm
    have hl2 : ops.length ≤ 2 := by
      unfold Txn.may at hm
      simp only [Bool.and_eq_true, decide_eq_true_eq] at hm
      omega
    refine T_CloneOps hp (fun h' hp => hs _ hp.tail.tail) (by omega) hne fun opv h4 hp => ?_
    refine hla1 hp (by rw [askC_len vwZ_ok]; decide) (askC_take vwZ_ok) ?_
    obtain ⟨oa, oc, _, rfl, _⟩ := hp.row
    obtain ⟨sa, sc, _, rfl, _⟩ := (hp.up 2).row
    refine wK (v := [i64 t, i64 q, i64 slot, i64 gen, .slice oa (ops.map Op.enc).length oc, i64 c] ++ (vwZ.cells ++ [.slice sa ([] : List Answer).length sc, .nilIface, i64 (-1), i64 0, .bool false, .bool false, .slice none 0 0])) (by kernel_rfl) ?_
    let y : At := ⟨t, q, slot, gen, ops, .wr ⟨0, []⟩, -1, 0, false, false, []⟩
    refine nw hp (atRow y (.slice oa (ops.map Op.enc).length oc) c vwZ (.slice sa ([] : List Answer).length sc) .nilIface (.slice none 0 0)) rfl fun b h5 hp => ?_
    replace hp := hp.re 4 [0, 3, 1]
    replace hp := hn hp
    have yo : y.ok := ⟨m.1.1, m.1.2, m.2.1.1, m.2.1.2, m.2.2.1, m.2.2.2, fun _ => rfl, ⟨by simp, by simp, fun _ h => by cases h⟩⟩
    refine T_atAsked (x := y) (m := ⟨some c, vwZ, []⟩) hp yo vwZ_ok (fun d e => by cases e; exact ⟨c0, c1⟩) fun nw h6 k1 _ => ?_
    have hp := k1 c rfl
    obtain ⟨nb, rfl⟩ : ∃ nb, nw = .iface 271 (ptr nb) := All.case hp fun h1 p _ => by obtain ⟨nb, e, _⟩ := p; exact ⟨nb, e⟩
    refine wk ?_
    replace hp := hp.up 1
    replace hp := hn hp
    refine stT hp (atRow y (.slice oa (ops.map Op.enc).length oc) c vwZ (.slice sa ([] : List Answer).length sc) (.iface 271 (ptr nb)) (.slice none 0 0)) vwZ_ok ⟨rfl, rfl⟩ rfl rfl rfl fun h7 hp => ?_
    refine ky m b _ ?_
    replace hp := All.emp_cons hp (rowP_nil 2 (fun _ => none))
    replace hp := hp.re 4 [1, 3, 0, 2]
    replace hp := hn hp
    have e : At.new t q slot gen ops = ⟨t, q, slot, gen, ops, .rd (.new t q c) vwZ, -1, 0, false, false, []⟩ := by unfold At.new; rw [em]; rfl
    rw [e]
    exact attP_shut (x := ⟨t, q, slot, gen, ops, .rd (.new t q c) vwZ, -1, 0, false, false, []⟩) (opv := .slice oa (ops.map Op.enc).length oc) (nd := c) (v := vwZ) (asv := .slice sa ([] : List Answer).length sc) (now := .iface 271 (ptr nb)) (ansv := .slice none 0 0) vwZ_ok rfl hp
end
end Go.Proofs.YtcpfkkppfgolaaaGreatDoor
namespace Go.Proofs.YtcpfkkppfgolaaaGreatDoor
open Go GW Go.Proofs
set_option maxRecDepth 20000
theorem Vw.one_short {v : Vw} {o : Op} : (v.one o).ans.length ≤ 1 := by
  unfold Vw.one
  simp only
  split <;> simp
theorem Vw.do_short {v : Vw} {ops : List Op} (m : Txn.may ops = true) : (v.do_ ops).ans.length ≤ 2 := by
  have key : ∀ (os : List Op) (w : Vw) (rs : List Answer), (v.doFrom os w rs).ans.length ≤ rs.length + os.length := by
    intro os
    induction os with
    | nil => intro w rs; simp [Vw.doFrom]
    | cons o os ih =>
      intro w rs
      have h1 := Vw.one_short (v := w) (o := o)
      unfold Vw.doFrom
      split
      · simp
      · split
        · have := ih (w.one o).view (rs ++ (w.one o).ans)
          simp only [List.length_append, List.length_cons] at this ⊢
          omega
        · simp only [List.length_append, List.length_cons]; omega
  unfold Txn.may at m
  simp only [Bool.and_eq_true, decide_eq_true_eq] at m
  have := key ops v []
  unfold Vw.do_
  simp at this
  omega
theorem At.step_short {x : At} {A : Ar} (o : x.ok) (h : x.ans.length ≤ 2) : (x.step A).1.ans.length ≤ 2 := by
  unfold At.step
  split
  · exact h
  · split
    · simp only
      split
      · exact h
      · split
        · unfold At.known At.asked
          split
          · exact h
          · exact Vw.do_short o.ops
        · exact h
    · exact h
    · simp only
      split <;> exact h
theorem set_self {α : Type} {l : List α} {k : Nat} {x : α} (h : l[k]? = some x) : l.set k x = l := by
  have hk := (List.getElem?_eq_some_iff.1 h).1
  refine List.ext_getElem? fun j => ?_
  rw [List.getElem?_set]
  split
  · rename_i e; subst e; exact h.symm
  · rfl
section
variable {a b c : Nat} {A B : Ar} {R : List Part} {h : GH} {K : Value → GH → Prop} {r : Rd}
end
def flagOf : Option Act → Nat
  | some .lea => 1
  | some .adv => 1
  | _ => 0
def restOf : Option Act → Int → Nat
  | none, t => if t = 0 then 0 else 16
  | _, _ => 16
structure Th.ok (x : Th) : Prop where
  n0 : 1 ≤ x.n
  n1 : x.n ≤ 4
  i0 : 0 ≤ x.id
  i1 : x.id < x.n
  k0 : 1 ≤ x.k
  k1 : x.k ≤ 16
  txns : thrMay x.txns = true
  evs : x.evs.length ≤ x.txns.length
  idx : ∀ (i : Nat) e, x.evs[i]? = some e → e.index = i
  live : x.next ≠ none ∨ x.tries ≠ 0 → x.evs ≠ []
  ans : x.next = none → x.tries = 0 → ∀ e ∈ x.evs, 0 ≤ e.answered
  old : ∀ (i : Nat) e, x.evs[i]? = some e → i + 1 < x.evs.length → 0 ≤ e.answered
  t0 : 0 ≤ x.tries
  t1 : x.tries < x.k
  q0 : 0 ≤ x.seq
  q1 : x.seq < 1048576
  p0 : 0 ≤ x.pause
  p1 : x.pause ≤ 8
  cl : x.cache.length ≤ 2
  ca : ∀ s ∈ x.cache, 0 ≤ s ∧ s < 12
  li : ∀ r ∈ x.limbo, r.good
  ri : ∀ s ∈ x.ripe, 0 ≤ s ∧ s < 12
  s0 : -1 ≤ x.slot
  s1 : x.slot < 12
  s2 : x.next = some .tri ∨ x.next = some .ret → 0 ≤ x.slot
  cap : x.limbo.length + x.ripe.length + restOf x.next x.tries ≤ 16 * x.evs.length + x.tries.toNat + flagOf x.next
  ent : ∀ n, x.ent = some n → n.ok
  push : ∀ n, x.push = some n → n.ok
  pop : ∀ n, x.pop = some n → n.ok
  att : ∀ n, x.att = some n → n.ok ∧ n.ans.length ≤ 2
  adv : ∀ n, x.adv = some n → n.ok
  e0 : 0 ≤ x.end_
  e1 : x.end_ ≤ 2
theorem thrMay_spec {ts : List (List Op)} (h : thrMay ts = true) : ts.length ≤ 8 ∧ ∀ t ∈ ts, Txn.may t = true := by
  unfold thrMay at h
  simp only [Bool.and_eq_true, decide_eq_true_eq, List.all_eq_true] at h
  exact h
theorem Th.new_ok {id n k : Int} {pol : Bool} {txns : List (List Op)} (m : Th.may id n k txns) : (Th.new id n k pol txns).ok := by
  obtain ⟨⟨n0, n1⟩, ⟨i0, i1⟩, ⟨k0, k1⟩, mt⟩ := m
  exact ⟨n0, n1, i0, i1, k0, k1, mt, Nat.zero_le _, (fun i e h => by simp [Th.new] at h), (fun h => by rcases h with h | h <;> exact absurd rfl h), (fun _ _ e h => by cases h), (fun i e h => by simp [Th.new] at h), Int.le_refl 0, by show 0 < k; omega, Int.le_refl 0, by show (0 : Int) < 1048576; decide, Int.le_refl 0, by show (0 : Int) ≤ 8; decide, by show 0 ≤ 2; decide, (fun s h => by cases h), (fun s h => by cases h), (fun s h => by cases h), Int.le_refl (-1), by show (-1 : Int) < 12; decide, (fun h => by rcases h with h | h <;> cases h), by show 0 + 0 + 0 ≤ 16 * 0 + 0 + 0; decide, (fun n h => by cases h), (fun n h => by cases h), (fun n h => by cases h), (fun n h => by cases h), (fun n h => by cases h), Int.le_refl 0, by show (0 : Int) ≤ 2; decide⟩
theorem evTurn_len (es : List Event) (f : Event → Event) : (evTurn es f).length = es.length := by
  unfold evTurn; split
  · rfl
  · rw [List.length_set]
theorem evTurn_get {es : List Event} {f : Event → Event} {i : Nat} {e : Event} (h : (evTurn es f)[i]? = some e) : ∃ e0, es[i]? = some e0 ∧ (e = e0 ∧ i + 1 < es.length ∨ e = f e0 ∧ i + 1 = es.length) := by
  unfold evTurn at h
  split at h
  · rename_i hn
    rw [List.getLast?_eq_none_iff] at hn
    subst hn; simp at h
  · rename_i l hl
    have hlen : i < es.length := by have := (List.getElem?_eq_some_iff.1 h).1; rw [List.length_set] at this; exact this
    rw [List.getElem?_set] at h
    split at h
    · rename_i c
      rw [if_pos (by omega)] at h
      cases h
      rw [List.getLast?_eq_getElem?] at hl
      exact ⟨l, by rw [← c]; exact hl, .inr ⟨rfl, by omega⟩⟩
    · exact ⟨e, h, .inl ⟨rfl, by omega⟩⟩
theorem ripes_mem {rs : List Ret} {e s : Int} (h : s ∈ ripes rs e) : ∃ r ∈ rs, r.slot = s := by
  unfold ripes at h
  obtain ⟨r, h1, h2⟩ := List.mem_map.1 h
  exact ⟨r, (List.mem_filter.1 h1).1, h2⟩
theorem pauseM_range (pol : Bool) {k : Int} : 0 ≤ pauseM pol k ∧ pauseM pol k ≤ 8 := by
  unfold pauseM
  split
  · exact ⟨by decide, by decide⟩
  · have : (0 : Int) < 2 ^ (k.toNat - 1) := Int.pow_pos (by decide)
    omega
section
variable {x : Th} {A : Ar} {L : List Int} {pick : Int}
theorem Th.ents_ok (o : x.ok) (hA : A.ok) (hn : x.next = some .ent) : (x.ents A).1.ok ∧ (x.ents A).2.2.ok := by
  unfold Th.ents
  cases e : x.ent with
  | none => exact ⟨o, hA⟩
  | some n =>
    have s := Ent.step_ok (o.ent n e) hA
    have hc := o.cap
    rw [hn] at hc
    simp only
    split
    · refine ⟨{ o with
        ri := fun s hs => by obtain ⟨r, h1, h2⟩ := ripes_mem hs; have := (o.li r h1).1; omega
        li := fun r hr => o.li r (List.mem_filter.1 hr).1
        live := fun _ => o.live (.inl (by rw [hn]; simp))
        ans := fun h => by cases h
        s2 := fun h => by rcases h with h | h <;> cases h
        cap := by have := ripes_rests x.limbo (n.step A).1.e; simp only [restOf, flagOf] at hc ⊢; omega
        ent := fun m hm => by cases hm; exact s.1 }, s.2⟩
    · exact ⟨{ o with ent := fun m hm => by cases hm; exact s.1 }, s.2⟩
theorem Th.tris_ok (o : x.ok) (hA : A.ok) (hn : x.next = some .tri) : (x.tris A).1.ok ∧ (x.tris A).2.2.ok := by
  unfold Th.tris
  cases e : x.att with
  | none => exact ⟨o, hA⟩
  | some a =>
    have oa := o.att a e
    have s := At.step_ok oa.1 hA
    have hc := o.cap
    have sl := o.s2 (.inl hn)
    rw [hn] at hc
    refine ⟨{ o with
      q0 := s.1.q0
      q1 := s.1.q1
      att := fun m hm => by cases hm; exact ⟨s.1, At.step_short oa.1 oa.2⟩
      live := fun _ => o.live (.inl (by rw [hn]; simp))
      ans := fun h => by simp only [hn] at h; split at h <;> cases h
      s2 := fun _ => sl
      cap := by simp only [hn]; split <;> (simp only [restOf, flagOf] at hc ⊢; omega) }, s.2⟩
theorem Th.with_ok (o : x.ok) (hn : x.next = some .tak) {s : Int} (h0 : 0 ≤ s) (h1 : s < 12) : (x.with_ s L).ok := by
  have hc := o.cap
  rw [hn] at hc
  exact { o with
    s0 := by show -1 ≤ s; omega
    s1 := h1
    s2 := fun _ => h0
    live := fun _ => o.live (.inl (by rw [hn]; simp))
    ans := fun h => by cases h
    cap := by simp only [Th.with_, restOf, flagOf] at hc ⊢; omega
    att := fun m hm => by
      simp only [Th.with_] at hm
      split at hm
      · rename_i m'; cases hm; exact ⟨At.new_ok m', by simp [At.new]⟩
      · cases hm }
theorem Th.taks_ok (o : x.ok) (hA : A.ok) (hn : x.next = some .tak ∨ x.next = some .fre) : (x.taks A L).1.1.ok ∧ (x.taks A L).1.2.2.ok := by
  have hc := o.cap
  have hlive := o.live (.inl (by rcases hn with h | h <;> (rw [h]; simp)))
  have hc2 : x.limbo.length + x.ripe.length + 16 ≤ 16 * x.evs.length + x.tries.toNat := by
    rcases hn with h | h <;> (rw [h] at hc; simp only [restOf, flagOf] at hc; omega)
  -- the same at 'takes'
  have o1 : ∀ {c : List Int} {p : Option Pop}, (c.length ≤ 2 ∧ ∀ s ∈ c, 0 ≤ s ∧ s < 12) → (∀ n, p = some n → n.ok) → ({ x with cache := c, pop := p, next := some .tak } : Th).ok := fun hcs hp => { o with
    cl := hcs.1
    ca := hcs.2
    pop := hp
    live := fun _ => hlive
    ans := fun h => by cases h
    s2 := fun h => by rcases h with h | h <;> cases h
    cap := by simp only [restOf, flagOf]; omega }
  have main : (x.pop = none → x.cache.getLast? = none ∨ True) → ∀ p : Option Pop, x.pop = p →
      let q := (p.getD .new).step A
      let r : (Th × Int × Ar) × List Int := if q.1.l.over = false ∨ q.2.1 ≠ 0 then (({ x with pop := some q.1, next := some .tak }, q.2.1, q.2.2), L) else
        if q.1.slot = -1 then (({ x with pop := none, end_ := 1, next := some .lea }, 0, q.2.2), L) else
        ((({ x with pop := none } : Th).with_ q.1.slot L, 0, q.2.2), lived q.1.slot L)
      r.1.1.ok ∧ r.1.2.2.ok := by
    intro _ p hp
    have po : (p.getD .new).ok := by
      cases p with
      | none => exact Pop.new_ok
      | some p => exact o.pop p hp
    have s := Pop.step_ok po hA
    simp only
    split
    · exact ⟨o1 ⟨o.cl, o.ca⟩ fun n hn => by cases hn; exact s.1, s.2⟩
    · split
      · refine ⟨{ o with
          pop := fun n h => by cases h
          live := fun _ => hlive
          ans := fun h => by cases h
          s2 := fun h => by rcases h with h | h <;> cases h
          e0 := by show (0 : Int) ≤ 1; decide
          e1 := by show (1 : Int) ≤ 2; decide
          cap := by simp only [restOf, flagOf]; omega }, s.2⟩
      · rename_i c
        have h0 := s.1.s0
        have h1 := s.1.s1
        have := Th.with_ok (L := L) (o1 ⟨o.cl, o.ca⟩ (p := none) fun n h => by cases h) rfl (s := ((p.getD .new).step A).1.slot) (by omega) h1
        exact ⟨this, s.2⟩
  unfold Th.taks
  cases hp : x.pop with
  | some p => exact main (fun _ => .inr trivial) _ hp
  | none =>
    cases hl : x.cache.getLast? with
    | none => exact main (fun _ => .inr trivial) _ hp
    | some s =>
      have hm := o.ca s (List.mem_of_getLast? hl)
      have := Th.with_ok (L := L) (o1 (c := x.cache.dropLast) (p := none) ⟨by rw [List.length_dropLast]; have := o.cl; omega, fun s hs => o.ca s (List.dropLast_subset _ hs)⟩ fun n h => by cases h) rfl hm.1 hm.2
      exact Th.tris_ok this hA rfl
theorem Th.cached_ok (o : x.ok) : x.cached.ok := by
  unfold Th.cached
  split
  · exact { o with
      cl := by simp only [List.length_append, List.length_take]; have := o.cl; omega
      ca := fun s hs => by
        rcases List.mem_append.1 hs with h | h
        · exact o.ca s h
        · exact o.ri s (List.mem_of_mem_take h)
      ri := fun s hs => o.ri s (List.mem_of_mem_drop hs)
      cap := by have := o.cap; simp only [List.length_drop]; omega }
  · exact o
theorem Th.cached_next : x.cached.next = x.next := by unfold Th.cached; split <;> rfl
theorem Th.fres_ok (o : x.ok) (hA : A.ok) (hn : x.next = some .fre) : (x.fres A L).1.1.ok ∧ (x.fres A L).1.2.2.ok := by
  have oc := Th.cached_ok o
  have hn' : x.cached.next = some .fre := by rw [Th.cached_next]; exact hn
  unfold Th.fres
  simp only
  generalize x.cached = y at oc hn' ⊢
  split
  · exact Th.taks_ok oc hA (.inr hn')
  · rename_i s r hr
    have hm := oc.ri s (by rw [hr]; simp)
    have po : (y.push.getD (.new s)).ok := by
      cases hp : y.push with
      | none => exact Push.new_ok hm.1 hm.2
      | some p => exact oc.push p hp
    have st := Push.step_ok po hA
    split
    · exact ⟨{ oc with
        push := fun n h => by cases h
        ri := fun s' hs => oc.ri s' (by rw [hr]; exact List.mem_cons_of_mem _ hs)
        cap := by have := oc.cap; rw [hr] at this; simp only [List.length_cons] at this; simp only; omega }, st.2⟩
    · exact ⟨{ oc with push := fun n h => by cases h; exact st.1 }, st.2⟩
theorem Th.rets_ok (o : x.ok) (hA : A.ok) (hn : x.next = some .ret) : (x.rets A).1.ok ∧ (x.rets A).2.2.ok := by
  have hc := o.cap
  rw [hn] at hc
  unfold Th.rets
  split
  · rename_i h
    unfold epIs at h
    simp only [Bool.and_eq_true, decide_eq_true_eq] at h
    have v := valOf_bd (A.at 29)
    refine ⟨{ o with
      li := fun r hr => by
        rcases List.mem_append.1 hr with q | q
        · exact o.li r q
        · rw [List.mem_singleton.1 q]; exact ⟨⟨o.s2 (.inr hn), o.s1⟩, v.1, by simp only; omega⟩
      s0 := Int.le_refl (-1)
      s1 := by show (-1 : Int) < 12; decide
      s2 := fun h => by rcases h with h | h <;> cases h
      live := fun _ => o.live (.inl (by rw [hn]; simp))
      ans := fun h => by cases h
      e0 := by simp only; split; decide; exact o.e0
      e1 := by simp only; split; decide; exact o.e1
      cap := by simp only [restOf, flagOf, List.length_append, List.length_singleton] at hc ⊢; omega }, hA.ld _⟩
  · exact ⟨o, hA.ld _⟩
theorem Th.leas_ok (o : x.ok) (hA : A.ok) (hn : x.next = some .lea) : (x.leas A).1.ok ∧ (x.leas A).2.2.ok := by
  have hc := o.cap
  rw [hn] at hc
  exact ⟨{ o with
    adv := fun n h => by cases h; exact Adv.new_ok o.n0 o.n1
    live := fun _ => o.live (.inl (by rw [hn]; simp))
    ans := fun h => by cases h
    s2 := fun h => by rcases h with h | h <;> cases h
    cap := by simp only [Th.leas, restOf, flagOf] at hc ⊢; omega }, hA.put _ zero64⟩
theorem Th.answer_ok (o : x.ok) (hn : x.next = some .adv) (hp : 0 ≤ pick) : (x.answer pick).ok := by
  have hc := o.cap
  rw [hn] at hc
  have hlive := o.live (.inl (by rw [hn]; simp))
  have t0 := o.t0; have t1 := o.t1; have k1 := o.k1
  have el : 0 < x.evs.length := List.length_pos_iff.2 hlive
  unfold Th.answer
  split
  · rename_i c
    refine { o with
      evs := by rw [evTurn_len]; exact o.evs
      idx := fun i e h => by obtain ⟨e0, h1, h2⟩ := evTurn_get h; have := o.idx i e0 h1; rcases h2 with ⟨rfl, _⟩ | ⟨rfl, _⟩ <;> exact this
      live := fun _ h => by have := congrArg List.length h; rw [evTurn_len] at this; simp at this; exact hlive this
      ans := fun _ h => by simp only at h; omega
      old := fun i e h hi => by rw [evTurn_len] at hi; obtain ⟨e0, h1, h2⟩ := evTurn_get h; rcases h2 with ⟨rfl, _⟩ | ⟨rfl, q⟩; exact o.old i _ h1 hi; omega
      t0 := by simp only; omega
      t1 := c.2
      p0 := (pauseM_range _).1
      p1 := (pauseM_range _).2
      s2 := fun h => by rcases h with h | h <;> cases h
      cap := by simp only [restOf, flagOf, evTurn_len] at hc ⊢; rw [if_neg (by omega)]; omega }
  · refine { o with
      evs := by rw [evTurn_len]; exact o.evs
      idx := fun i e h => by obtain ⟨e0, h1, h2⟩ := evTurn_get h; have := o.idx i e0 h1; rcases h2 with ⟨rfl, _⟩ | ⟨rfl, _⟩ <;> exact this
      live := fun h => by rcases h with h | h <;> exact absurd rfl h
      ans := fun _ _ e h => by
        obtain ⟨i, hi, he⟩ := List.mem_iff_getElem.1 h
        obtain ⟨e0, h1, h2⟩ := evTurn_get (show (evTurn x.evs _)[i]? = some e by rw [List.getElem?_eq_getElem hi, he])
        rcases h2 with ⟨rfl, q⟩ | ⟨rfl, q⟩
        · exact o.old i _ h1 q
        · exact hp
      old := fun i e h hi => by rw [evTurn_len] at hi; obtain ⟨e0, h1, h2⟩ := evTurn_get h; rcases h2 with ⟨rfl, _⟩ | ⟨rfl, q⟩; exact o.old i _ h1 hi; omega
      t0 := Int.le_refl 0
      t1 := by show 0 < x.k; have := o.k0; omega
      s2 := fun h => by rcases h with h | h <;> cases h
      cap := by simp only [restOf, flagOf, evTurn_len, if_true] at hc ⊢; omega }
theorem Th.advs_ok (o : x.ok) (hA : A.ok) (hn : x.next = some .adv) (hp : 0 ≤ pick) : (x.advs A pick).1.ok ∧ (x.advs A pick).2.2.ok := by
  unfold Th.advs
  cases e : x.adv with
  | none => exact ⟨o, hA⟩
  | some d =>
    have s := Adv.step_ok (o.adv d e) hA
    have o1 : ({ x with adv := some (d.step A).1 } : Th).ok := { o with adv := fun n h => by cases h; exact s.1 }
    simp only
    split
    · exact ⟨Th.answer_ok o1 hn hp, s.2⟩
    · exact ⟨o1, s.2⟩
theorem Th.act_ok {a : Act} (o : x.ok) (hA : A.ok) (hn : x.next = some a) (hp : 0 ≤ pick) : (x.act A L pick a).1.1.ok ∧ (x.act A L pick a).1.2.2.ok := by
  cases a with
  | ent => exact Th.ents_ok o hA hn
  | fre => exact Th.fres_ok o hA hn
  | tak => exact Th.taks_ok o hA (.inl hn)
  | tri => exact Th.tris_ok o hA hn
  | ret => exact Th.rets_ok o hA hn
  | lea => exact Th.leas_ok o hA hn
  | adv => exact Th.advs_ok o hA hn hp
theorem Th.begin_ok (o : x.ok) (hn : x.next = none) : (x.begin pick).1.ok ∧ ((x.begin pick).2 = true → (x.begin pick).1.next = some .ent) := by
  unfold Th.begin
  split
  · exact ⟨o, fun h => by cases h⟩
  · rename_i hd
    split
    · exact ⟨{ o with p0 := by simp only; omega, p1 := by have := o.p1; simp only; omega }, fun h => by cases h⟩
    · refine ⟨?_, fun _ => rfl⟩
      have hc := o.cap
      rw [hn] at hc
      have i0 := o.i0; have i1 := o.i1; have n1 := o.n1
      have he : ∀ m, (some (Ent.new x.id)) = some m → m.ok := fun m h => by cases h; exact Ent.new_ok i0 (by omega)
      by_cases ht : x.tries = 0
      · have ha := o.ans hn ht
        have hlt : x.evs.length < x.txns.length := by
          rcases Nat.lt_or_ge x.evs.length x.txns.length with q | q
          · exact q
          · exfalso
            have hl := o.evs
            apply hd
            unfold Th.done
            rw [decide_eq_true (by omega), Bool.true_and]
            split
            · rfl
            · rename_i e h; exact decide_eq_true (ha e (List.mem_of_getLast? h))
        rw [if_pos ht]
        refine { o with
          evs := by simp only [List.length_append, List.length_singleton]; omega
          idx := fun i e h => by
            rw [List.getElem?_append] at h
            split at h
            · exact o.idx i e h
            · rename_i q
              have : i - x.evs.length = 0 := by
                rcases Nat.eq_zero_or_pos (i - x.evs.length) with z | z
                · exact z
                · rw [List.getElem?_eq_none (by simp; omega)] at h; cases h
              rw [this] at h
              cases h
              simp only; omega
          live := fun _ h => by simp at h
          ans := fun h => by cases h
          old := fun i e h hi => by
            simp only [List.length_append, List.length_singleton] at hi
            rw [List.getElem?_append_left (by omega)] at h
            exact ha e (List.mem_of_getElem? h)
          s2 := fun h => by rcases h with h | h <;> cases h
          ent := he
          e0 := by show (0 : Int) ≤ 2; decide
          e1 := Int.le_refl 2
          cap := by rw [ht] at hc; simp only [restOf, flagOf, List.length_append, List.length_singleton, if_true, ht] at hc ⊢; omega }
      · rw [if_neg ht]
        refine { o with
          live := fun _ => o.live (.inr ht)
          ans := fun h => by cases h
          s2 := fun h => by rcases h with h | h <;> cases h
          ent := he
          e0 := by show (0 : Int) ≤ 2; decide
          e1 := Int.le_refl 2
          cap := by simp only [restOf, flagOf] at hc ⊢; rw [if_neg ht] at hc; omega }
theorem Th.ended_ok {r : (Th × Int × Ar) × List Int} (h : r.1.1.ok ∧ r.1.2.2.ok) : (Th.ended r).1.ok ∧ (Th.ended r).2.2.2.1.ok := by
  unfold Th.ended
  split
  · exact h
  · exact ⟨{ h.1 with }, h.2⟩
theorem Th.step_ok (o : x.ok) (hA : A.ok) (hp : 0 ≤ pick) : (x.step A L pick).1.ok ∧ (x.step A L pick).2.2.2.1.ok := by
  unfold Th.step
  split
  · exact ⟨o, hA⟩
  · have o1 : ({ x with ts := -1, tg := 0 } : Th).ok := { o with }
    simp only
    split
    · rename_i a e
      exact Th.ended_ok (Th.act_ok o1 hA e hp)
    · rename_i e
      have b := Th.begin_ok (pick := pick) o1 e
      split
      · rename_i q
        exact Th.ended_ok (Th.act_ok b.1 hA (b.2 q) hp)
      · exact ⟨b.1, hA⟩
theorem Th.decide_ok (o : x.ok) {slot : Int} : (x.decide slot pick).ok := by
  unfold Th.decide
  split
  · refine { o with
      evs := by rw [evTurn_len]; exact o.evs
      idx := fun i e h => by obtain ⟨e0, h1, h2⟩ := evTurn_get h; have := o.idx i e0 h1; rcases h2 with ⟨rfl, _⟩ | ⟨rfl, _⟩ <;> exact this
      live := fun h q => by have := congrArg List.length q; rw [evTurn_len] at this; simp at this; exact o.live h this
      ans := fun h1 h2 e h => by
        obtain ⟨i, hi, he⟩ := List.mem_iff_getElem.1 h
        obtain ⟨e0, h3, h4⟩ := evTurn_get (show (evTurn x.evs _)[i]? = some e by rw [List.getElem?_eq_getElem hi, he])
        have := o.ans h1 h2 e0 (List.mem_of_getElem? h3)
        rcases h4 with ⟨rfl, _⟩ | ⟨rfl, _⟩ <;> exact this
      old := fun i e h hi => by rw [evTurn_len] at hi; obtain ⟨e0, h1, h2⟩ := evTurn_get h; have := o.old i e0 h1 hi; rcases h2 with ⟨rfl, _⟩ | ⟨rfl, q⟩ <;> exact this
      cap := by simp only [evTurn_len]; exact o.cap }
  · exact o
end
inductive Acc (P : Int → Prop) (A : Ar) : Ar → Prop
  | none : Acc P A A
  | ld (i : Int) (h0 : 0 ≤ i) (h1 : i < 634) : Acc P A (A.ld i)
  | put (i x : Int) (h0 : 0 ≤ i) (h1 : i < 634) (p : P i) (hx : I64 x) : Acc P A (A.put i x)
  | cas (i o x : Int) (h0 : 0 ≤ i) (h1 : i < 634) (p : P i) (hx : I64 x) (hd : 34 ≤ i → (plainOf x).isSome = true := by intro h; exfalso; first | omega | (first | omega | (simp only; omega))) : Acc P A (A.cas i o x)
theorem Acc.mono {P Q : Int → Prop} {A B : Ar} (a : Acc P A B) (h : ∀ i, P i → Q i) : Acc Q A B := by
  cases a with
  | none => exact .none
  | ld i h0 h1 => exact .ld i h0 h1
  | put i x h0 h1 p hx => exact .put i x h0 h1 (h _ p) hx
  | cas i o x h0 h1 p hx hd => exact .cas i o x h0 h1 (h _ p) hx hd
structure Ar.lok (A : Ar) : Prop where
  at0 : 0 ≤ A.last.getD 2 0
  at1 : A.last.getD 2 0 < 634
  was : I64 (A.last.getD 3 0)
  now : I64 (A.last.getD 4 0)
  pl : A.last.getD 1 0 = 2 → 34 ≤ A.last.getD 2 0 → A.last.getD 3 0 = A.last.getD 4 0 ∨ (plainOf (A.last.getD 4 0)).isSome = true
theorem Acc.lok {P : Int → Prop} {A B : Ar} (a : Acc P A B) (o : A.ok) (l : A.lok) : B.lok := by
  cases a with
  | none => exact l
  | ld i h0 h1 => exact ⟨Int.natCast_nonneg _, (by show ((i.toNat : Nat) : Int) < 634; omega), Ar.at_range o i, Ar.at_range o i, fun h => absurd (show (0 : Int) = 2 from h) (by decide)⟩
  | put i x h0 h1 p hx => exact ⟨Int.natCast_nonneg _, (by show ((i.toNat : Nat) : Int) < 634; omega), Ar.at_range o i, hx, fun h => absurd (show (1 : Int) = 2 from h) (by decide)⟩
  | cas i ol x h0 h1 p hx hd =>
    refine ⟨Int.natCast_nonneg _, (by show ((i.toNat : Nat) : Int) < 634; omega), Ar.at_range o i, ?_, fun _ h => ?_⟩
    · show I64 (if A.at i = ol then x else A.at i)
      split
      · exact hx
      · exact Ar.at_range o i
    · show A.at i = (if A.at i = ol then x else A.at i) ∨ (plainOf (if A.at i = ol then x else A.at i)).isSome = true
      split
      · exact .inr (hd (by have h : 34 ≤ ((i.toNat : Nat) : Int) := h; omega))
      · exact .inl rfl
def inAtt (i : Int) : Prop := i < 16 ∨ 34 ≤ i
section
variable {A : Ar} {t q : Int}
theorem Wh.step_acc {w : Wh} (ok : w.ok) (hA : A.ok) (t0 : 0 ≤ t) (t1 : t < 4) (q0 : 0 ≤ q) (q1 : q < 1048576) : Acc inAtt A (w.step t q A).a := by
  obtain ⟨s, g, pc, i, k, cell, was, put, x, opn, won⟩ := w
  obtain ⟨life, i0, i1, i2, k1, k0, c0, c1, was1, put1, x1, pc1, pc0, ref⟩ := ok
  simp only at life i0 i1 i2 k1 k0 c0 c1 was1 put1 x1 pc1 pc0 ref
  have s0 := life.s0; have s1 := life.s1
  have hb : baseOf s = 34 + s * 50 := rfl
  have st : ∀ d, 0 ≤ d → d < 4 → I64 (stateW g d) := fun d h0 h1 => stateW_range life.g0 life.g1 h0 h1
  have : pc = 1 ∨ pc = 2 ∨ pc = 3 ∨ pc = 4 ∨ pc = 5 ∨ pc = 6 ∨ pc = 7 ∨ pc = 8 ∨ pc = 9 ∨ pc = 10 ∨ pc = 11 ∨ pc = 12 ∨ pc = 13 ∨ pc = 14 := by omega
  rcases this with rfl | rfl | rfl | rfl | rfl | rfl | rfl | rfl | rfl | rfl | rfl | rfl | rfl | rfl
  · exact .ld _ (by (first | omega | (simp only; omega))) (by (first | omega | (simp only; omega)))
  · exact .ld _ (by (first | omega | (simp only; omega))) (by (first | omega | (simp only; omega)))
  · have := i2 (by decide) (by decide) (by decide) (by decide); exact .ld _ (by (first | omega | (simp only; omega))) (by (first | omega | (simp only; omega)))
  · have := i2 (by decide) (by decide) (by decide) (by decide); exact .ld _ (by (first | omega | (simp only; omega))) (by (first | omega | (simp only; omega)))
  · have hi := i2 (by decide) (by decide) (by decide) (by decide)
    have hp := entry_range life i0 hi t0 t1 q0 q1
    rw [Wh.step5 rfl]
    unfold Wh.swapIn
    have key : Acc inAtt A (A.cas cell was (Form.entry s g i t q).number) := .cas _ _ _ c0 (by (first | omega | (simp only; omega))) (.inl c1) hp
    simp only
    split
    · exact key
    · split
      · exact key
      · exact key
      · exact key
      · split <;> exact key
  · exact .ld _ (by (first | omega | (simp only; omega))) (by (first | omega | (simp only; omega)))
  · refine .cas _ _ _ c0 (by (first | omega | (simp only; omega))) (.inl c1) ?_ (fun h => absurd (show 34 ≤ cell from h) (by omega))
    simp only [Wh.mine]; split
    · exact mcas_range life
    · exact was1
  · exact .cas _ _ _ (by (first | omega | (simp only; omega))) (by (first | omega | (simp only; omega))) (.inr (by (first | omega | (simp only; omega)))) (st 1 (by decide) (by decide)) (fun _ => stateW_val life.g0 life.g1 (by decide) (by decide))
  · exact .cas _ _ _ (by (first | omega | (simp only; omega))) (by (first | omega | (simp only; omega))) (.inr (by (first | omega | (simp only; omega)))) (st 2 (by decide) (by decide)) (fun _ => stateW_val life.g0 life.g1 (by decide) (by decide))
  · exact .ld _ (by (first | omega | (simp only; omega))) (by (first | omega | (simp only; omega)))
  · have := i2 (by decide) (by decide) (by decide) (by decide); exact .ld _ (by (first | omega | (simp only; omega))) (by (first | omega | (simp only; omega)))
  · have := i2 (by decide) (by decide) (by decide) (by decide)
    refine .ld _ ?_ ?_ <;> simp only <;> split <;> omega
  · exact .cas _ _ _ c0 (by (first | omega | (simp only; omega))) (.inl c1) x1 (fun h => absurd (show 34 ≤ cell from h) (by omega))
  · simp only [Wh.step]
    split <;> exact .ld _ (by (first | omega | (simp only; omega))) (by (first | omega | (simp only; omega)))
theorem En.step_acc {f : En} (ok : f.ok) (hA : A.ok) : Acc inAtt A (f.step q A).a := by
  obtain ⟨s, g, e, t', q', pc, cell, was, opn⟩ := f
  obtain ⟨life, e0, e1, t0, t1, q0', q1', c0, c1, was1, pc1⟩ := ok
  simp only at life e0 e1 t0 t1 q0' q1' c0 c1 was1 pc1
  have s0 := life.s0; have s1 := life.s1
  have hb : baseOf s = 34 + s * 50 := rfl
  have : pc = 0 ∨ pc = 1 ∨ pc = 2 ∨ pc = 3 := by omega
  rcases this with rfl | rfl | rfl | rfl
  · exact .ld _ (by (first | omega | (simp only; omega))) (by (first | omega | (simp only; omega)))
  · exact .ld _ (by (first | omega | (simp only; omega))) (by (first | omega | (simp only; omega)))
  · exact .ld _ (by (first | omega | (simp only; omega))) (by (first | omega | (simp only; omega)))
  · refine .cas _ _ _ c0 (by (first | omega | (simp only; omega))) (.inl c1) ?_ (fun h => absurd (show 34 ≤ cell from h) (by omega))
    simp only; split
    · exact mcas_range life
    · exact was1
theorem Help.step_acc {H : Help} (ok : H.ok) (hA : A.ok) : Acc inAtt A (H.step A).2.2 := by
  cases c : H.over with
  | true =>
    have e : H.step A = (H, 0, A) := by unfold Help.step; rw [c]; rfl
    rw [e]; exact .none
  | false =>
    rw [Help.step_eq c]
    obtain ⟨k1, k2, k3⟩ := ok.frames c
    show Acc inAtt A (H.top.step H.t H.q A).a
    cases ht : H.top with
    | who w => rw [ht] at k1; exact Wh.step_acc k1 hA ok.t0 ok.t1 ok.q0 ok.q1
    | ent f => rw [ht] at k1; exact En.step_acc k1 hA
theorem Rd.step_acc {r : Rd} (o : r.ok) (hA : A.ok) : Acc inAtt A (r.step A).2.2 := by
  have c0 := o.c0; have c1 := o.c1
  unfold Rd.step
  split
  · exact .none
  · split
    · rename_i H e
      exact Help.step_acc (o.help H e).1 hA
    · unfold Rd.load
      have key : Acc inAtt A (A.ld r.cell) := .ld _ c0 (by omega)
      split
      · exact key
      · split <;> exact key
theorem At.step_acc {x : At} (o : x.ok) (hA : A.ok) (hw : ∀ w, x.st = .wr w → 34 ≤ w.addr) : Acc inAtt A (x.step A).2.2 := by
  unfold At.step
  split
  · exact .none
  · have hs := o.st
    split
    · rename_i r v e
      rw [e] at hs
      have key := Rd.step_acc hs.1 hA
      simp only
      split
      · exact key
      · split <;> exact key
    · rename_i w e
      rw [e] at hs
      have hs : w.ok := hs
      show Acc inAtt A (w.step A).2.2
      unfold Wr.step
      have a0 := hs.a0; have a1 := hs.a1
      split
      · exact .none
      · rename_i y r el
        rw [el] at a1
        simp only [List.length_cons] at a1
        exact .put _ _ a0 (by omega) (.inr (hw w e)) (hs.range y (by rw [el]; simp))
    · rename_i H e
      rw [e] at hs
      have key := Help.step_acc hs.1 hA
      simp only
      split <;> exact key
theorem At.step_wr {x : At} (o : x.ok) (hw : ∀ w, x.st = .wr w → 34 ≤ w.addr) : ∀ w, (x.step A).1.st = .wr w → 34 ≤ w.addr := by
  have hl := o.life
  unfold lifeMay at hl
  simp only [decide_eq_true_eq] at hl
  have asked : ∀ (y : At) m, y.slot = x.slot → ∀ w, (y.asked m).st = .wr w → 34 ≤ w.addr := by
    intro y m hy w hw
    unfold At.asked at hw
    split at hw
    · cases hw
    · cases hw; rw [hy]; show 34 ≤ 34 + x.slot * 50; omega
  unfold At.step
  split
  · exact hw
  · split
    · simp only
      split
      · intro w h; cases h
      · split
        · exact asked _ _ rfl
        · intro w h; cases h
    · rename_i w0 e
      intro w h
      simp only at h
      split at h
      · cases h
      · cases h
        have := hw w0 e
        unfold Wr.step
        split
        · exact this
        · show 34 ≤ w0.addr + 1; omega
    · simp only
      split <;> (intro w h; cases h)
theorem Ent.step_acc {n : Ent} (o : n.ok) : Acc (fun i => 30 ≤ i ∧ i < 34) A (n.step A).2.2 := by
  have := o.t0; have := o.t1; have := o.e0; have := o.e1
  unfold Ent.step
  split
  · exact .none
  · split
    · exact .put _ _ (by omega) (by omega) (by constructor <;> omega) (by constructor <;> omega)
    · split <;> exact .ld _ (by omega) (by omega)
theorem Adv.step_acc {d : Adv} (o : d.ok) : Acc (fun i => i = 29) A (d.step A).2.2 := by
  have := o.a1; have := o.n1; have := o.e0; have := o.e1
  unfold Adv.step
  split
  · exact .none
  · split
    · split <;> exact .ld _ (by omega) (by omega)
    · split
      · split <;> exact .ld _ (by omega) (by omega)
      · exact .cas _ _ _ (by omega) (by omega) rfl (by constructor <;> omega)
theorem Pop.step_acc {p : Pop} (o : p.ok) : Acc (fun i => i = 16) A (p.step A).2.2 := by
  have ol := o.l
  unfold Pop.step
  split
  · exact .none
  · rename_i hov
    have hov : p.l.over = false := by simpa using hov
    split
    · split <;> exact .ld _ (by omega) (by omega)
    · have f := o.f hov (by assumption)
      split
      · split <;> exact .ld _ (by omega) (by omega)
      · have a0 := ol.a0; have a1 := ol.a1
        have n := o.n2 hov (by omega)
        have tr := Lst.turned_range (l := p.l) ol.c0 o.n0 n
        split <;> exact .cas _ _ _ (by omega) (by omega) rfl tr
theorem Push.step_acc {p : Push} (o : p.ok) : Acc (fun i => 16 ≤ i ∧ i < 29) A (p.step A).2.2 := by
  have ol := o.l
  have s0 := o.s0; have s1 := o.s1; have f0 := ol.f0; have f1 := ol.f1
  unfold Push.step
  split
  · exact .none
  · split
    · split <;> exact .ld _ (by omega) (by omega)
    · split
      · exact .put _ _ (by omega) (by omega) (by constructor <;> omega) (by constructor <;> omega)
      · exact .cas _ _ _ (by omega) (by omega) (by constructor <;> omega) (Lst.turned_range ol.c0 (by omega) (by omega))
end
def Th.wrs (x : Th) : Prop := ∀ a, x.att = some a → ∀ w, a.st = .wr w → 34 ≤ w.addr
section
variable {A : Ar} {x : Th} {L : List Int} {pick : Int}
abbrev anyP : Int → Prop := fun _ => True
theorem Th.tris_acc (o : x.ok) (hw : x.wrs) (hA : A.ok) : Acc anyP A (x.tris A).2.2 ∧ (x.tris A).1.wrs := by
  unfold Th.tris
  cases e : x.att with
  | none => exact ⟨.none, hw⟩
  | some a =>
    refine ⟨(At.step_acc (o.att a e).1 hA (hw a e)).mono fun _ _ => trivial, fun b hb => ?_⟩
    cases hb
    exact At.step_wr (o.att a e).1 (hw a e)
theorem Th.with_wrs {s : Int} (h0 : 0 ≤ s) : (x.with_ s L).wrs := by
  intro a ha w hw
  unfold Th.with_ at ha
  simp only at ha
  split at ha
  · cases ha; cases hw
  · cases ha
theorem Th.taks_acc (o : x.ok) (hw : x.wrs) (hA : A.ok) (hn : x.next = some .tak ∨ x.next = some .fre) : Acc anyP A (x.taks A L).1.2.2 ∧ (x.taks A L).1.1.wrs := by
  have main : ∀ p : Option Pop, x.pop = p →
      let q := (p.getD .new).step A
      let r : (Th × Int × Ar) × List Int := if q.1.l.over = false ∨ q.2.1 ≠ 0 then (({ x with pop := some q.1, next := some .tak }, q.2.1, q.2.2), L) else
        if q.1.slot = -1 then (({ x with pop := none, end_ := 1, next := some .lea }, 0, q.2.2), L) else
        ((({ x with pop := none } : Th).with_ q.1.slot L, 0, q.2.2), lived q.1.slot L)
      Acc anyP A r.1.2.2 ∧ r.1.1.wrs := by
    intro p hp
    have po : (p.getD .new).ok := by
      cases p with
      | none => exact Pop.new_ok
      | some p => exact o.pop p hp
    have s := Pop.step_ok po hA
    have a : Acc anyP A ((p.getD .new).step A).2.2 := (Pop.step_acc po).mono fun _ _ => trivial
    simp only
    split
    · exact ⟨a, hw⟩
    · split
      · exact ⟨a, hw⟩
      · have h0 := s.1.s0
        exact ⟨a, Th.with_wrs (by omega)⟩
  unfold Th.taks
  cases hp : x.pop with
  | some p => exact main _ hp
  | none =>
    cases hl : x.cache.getLast? with
    | none => exact main _ hp
    | some s =>
      have hm := o.ca s (List.mem_of_getLast? hl)
      have hc := o.cap
      have hlive := o.live (.inl (by rcases hn with h | h <;> (rw [h]; simp)))
      have hc2 : x.limbo.length + x.ripe.length + 16 ≤ 16 * x.evs.length + x.tries.toNat := by
        rcases hn with h | h <;> (rw [h] at hc; simp only [restOf, flagOf] at hc; omega)
      have o1 : ({ x with cache := x.cache.dropLast, pop := none, next := some .tak } : Th).ok := { o with
        pop := fun n h => by cases h
        cl := by show (x.cache.dropLast).length ≤ 2; rw [List.length_dropLast]; have := o.cl; omega
        ca := fun s hs => o.ca s (List.dropLast_subset _ hs)
        live := fun _ => hlive
        ans := fun h => by cases h
        s2 := fun h => by rcases h with h | h <;> cases h
        cap := by simp only [restOf, flagOf]; omega }
      have := Th.with_ok (L := L) o1 rfl hm.1 hm.2
      exact Th.tris_acc this (Th.with_wrs hm.1) hA
theorem Th.fres_acc (o : x.ok) (hw : x.wrs) (hA : A.ok) (hn : x.next = some .fre) : Acc anyP A (x.fres A L).1.2.2 ∧ (x.fres A L).1.1.wrs := by
  have oc := Th.cached_ok o
  have hn' : x.cached.next = some .fre := by rw [Th.cached_next]; exact hn
  have hw' : x.cached.wrs := by unfold Th.cached; split <;> exact hw
  unfold Th.fres
  simp only
  generalize x.cached = y at oc hn' hw' ⊢
  split
  · exact Th.taks_acc oc hw' hA (.inr hn')
  · rename_i s r hr
    have hm := oc.ri s (by rw [hr]; simp)
    have po : (y.push.getD (.new s)).ok := by
      cases hp : y.push with
      | none => exact Push.new_ok hm.1 hm.2
      | some p => exact oc.push p hp
    have a : Acc anyP A ((y.push.getD (.new s)).step A).2.2 := (Push.step_acc po).mono fun _ _ => trivial
    split <;> exact ⟨a, hw'⟩
theorem Th.act_acc {a : Act} (o : x.ok) (hw : x.wrs) (hA : A.ok) (hn : x.next = some a) : Acc anyP A (x.act A L pick a).1.2.2 ∧ (x.act A L pick a).1.1.wrs := by
  cases a with
  | ent =>
    unfold Th.act Th.ents
    cases e : x.ent with
    | none => exact ⟨.none, hw⟩
    | some n =>
      have a : Acc anyP A (n.step A).2.2 := (Ent.step_acc (o.ent n e)).mono fun _ _ => trivial
      simp only
      split <;> exact ⟨a, hw⟩
  | fre => exact Th.fres_acc o hw hA hn
  | tak => exact Th.taks_acc o hw hA (.inl hn)
  | tri => exact Th.tris_acc o hw hA
  | ret =>
    unfold Th.act Th.rets
    simp only
    split <;> exact ⟨.ld _ (by omega) (by omega), hw⟩
  | lea =>
    have i0 := o.i0; have i1 := o.i1; have n1 := o.n1
    exact ⟨.put _ _ (by omega) (by omega) trivial zero64, hw⟩
  | adv =>
    unfold Th.act Th.advs
    cases e : x.adv with
    | none => exact ⟨.none, hw⟩
    | some d =>
      have a : Acc anyP A (d.step A).2.2 := (Adv.step_acc (o.adv d e)).mono fun _ _ => trivial
      simp only
      split
      · refine ⟨a, ?_⟩
        unfold Th.answer
        split <;> exact hw
      · exact ⟨a, hw⟩
theorem Th.ended_acc {r : (Th × Int × Ar) × List Int} (h : Acc anyP A r.1.2.2 ∧ r.1.1.wrs) : Acc anyP A (Th.ended r).2.2.2.1 ∧ (Th.ended r).1.wrs := by
  unfold Th.ended
  split <;> exact h
theorem Th.step_acc (o : x.ok) (hw : x.wrs) (hA : A.ok) : Acc anyP A (x.step A L pick).2.2.2.1 ∧ (x.step A L pick).1.wrs := by
  unfold Th.step
  split
  · exact ⟨.none, hw⟩
  · have o1 : ({ x with ts := -1, tg := 0 } : Th).ok := { o with }
    simp only
    split
    · rename_i a e
      exact Th.ended_acc (Th.act_acc o1 hw hA e)
    · rename_i e
      have b := Th.begin_ok (pick := pick) o1 e
      have bw : (({ x with ts := -1, tg := 0 } : Th).begin pick).1.wrs := by
        unfold Th.begin
        split
        · exact hw
        · split <;> exact hw
      split
      · rename_i q
        exact Th.ended_acc (Th.act_acc b.1 bw hA (b.2 q))
      · exact ⟨.none, bw⟩
end
section
variable {A : Ar} {x : Th} {L : List Int} {pick : Int}
theorem Help.step_slot {H : Help} (ok : H.ok) (ho : H.over = false) : 0 ≤ (H.step A).1.slot ∧ (H.step A).1.slot < 12 := by
  rw [Help.step_eq ho]
  have hl := Fr.life (ok.frames ho).1
  have key : ∀ o : Out, (H.take o).1.slot = H.top.s := by
    intro o
    unfold Help.take
    simp only
    split
    · rfl
    · split
      · split <;> rfl
      · split
        · rfl
        · split <;> rfl
  show 0 ≤ (H.take _).1.slot ∧ (H.take _).1.slot < 12
  rw [key]
  exact ⟨hl.s0, hl.s1⟩
theorem Rd.step_slot {r : Rd} (ok : r.ok) (ho : r.over = false) : -1 ≤ (r.step A).1.slot ∧ (r.step A).1.slot < 12 := by
  unfold Rd.step
  rw [if_neg (by rw [ho]; decide)]
  split
  · rename_i H e
    have h := ok.help H e
    have := Help.step_slot (A := A) h.1 h.2
    exact ⟨by show -1 ≤ (H.step A).1.slot; omega, this.2⟩
  · unfold Rd.load
    split
    · exact ⟨Int.le_refl (-1), by show (-1 : Int) < 12; decide⟩
    · split <;> exact ⟨Int.le_refl (-1), by show (-1 : Int) < 12; decide⟩
def At.tsr (a : At) : Prop := -1 ≤ a.ts ∧ a.ts < 12
theorem At.step_tsr {a : At} (o : a.ok) (h : a.tsr) : (a.step A).1.tsr := by
  have hl := o.life
  unfold lifeMay at hl
  simp only [decide_eq_true_eq] at hl
  have asked : ∀ (y : At) m, y.tsr → (y.asked m).tsr := by
    intro y m hy
    unfold At.asked
    split <;> exact hy
  unfold At.step
  split
  · exact h
  · rename_i ho
    have ho : a.over = false := by simpa using ho
    have hs := o.st
    split
    · rename_i r v e
      rw [e] at hs
      have key := Rd.step_slot (A := A) hs.1 (hs.2.2 ho)
      simp only
      split
      · exact key
      · split
        · exact asked _ _ key
        · exact key
    · exact ⟨by show -1 ≤ a.slot; omega, hl.2.1⟩
    · rename_i H e
      rw [e] at hs
      have key := Help.step_slot (A := A) hs.1 (hs.2 ho)
      simp only
      split
      · exact ⟨by show -1 ≤ (H.step A).1.slot; omega, key.2⟩
      · exact ⟨by show -1 ≤ (H.step A).1.slot; omega, key.2⟩
def Th.tsr (x : Th) : Prop := (-1 ≤ x.ts ∧ x.ts < 12) ∧ ∀ a, x.att = some a → a.tsr
theorem Th.tris_tsr (o : ∀ n, x.att = some n → n.ok) (h : x.tsr) : (x.tris A).1.tsr := by
  unfold Th.tris
  cases e : x.att with
  | none => exact h
  | some a =>
    have := At.step_tsr (A := A) (o a e) (h.2 a e)
    exact ⟨this, fun b hb => by cases hb; exact this⟩
theorem Th.with_tsr {s : Int} (h : x.tsr) : (x.with_ s L).tsr := by
  refine ⟨h.1, fun a ha => ?_⟩
  unfold Th.with_ at ha
  simp only at ha
  split at ha
  · cases ha; exact ⟨Int.le_refl (-1), by show (-1 : Int) < 12; decide⟩
  · cases ha
theorem Th.taks_tsr (h : x.tsr) : (x.taks A L).1.1.tsr := by
  unfold Th.taks
  split
  · refine Th.tris_tsr (fun n hn => ?_) (Th.with_tsr h)
    unfold Th.with_ at hn
    simp only at hn
    split at hn
    · rename_i m; cases hn; exact At.new_ok m
    · cases hn
  · simp only
    split
    · exact h
    · split
      · exact h
      · exact Th.with_tsr h
theorem Th.act_tsr {a : Act} (o : x.ok) (h : x.tsr) : (x.act A L pick a).1.1.tsr := by
  cases a with
  | ent =>
    show (x.ents A).1.tsr
    unfold Th.ents
    cases x.ent with
    | none => exact h
    | some n => simp only; split <;> exact h
  | fre =>
    show (x.fres A L).1.1.tsr
    unfold Th.fres
    have hc : x.cached.tsr := by unfold Th.cached; split <;> exact h
    simp only
    split
    · exact Th.taks_tsr hc
    · split <;> exact hc
  | tak => exact Th.taks_tsr h
  | tri => exact Th.tris_tsr (fun n hn => (o.att n hn).1) h
  | ret => show (x.rets A).1.tsr; unfold Th.rets; split <;> exact h
  | lea => exact h
  | adv =>
    show (x.advs A pick).1.tsr
    unfold Th.advs
    cases x.adv with
    | none => exact h
    | some d =>
      simp only
      split
      · unfold Th.answer; split <;> exact h
      · exact h
theorem Th.ended_tsr {r : (Th × Int × Ar) × List Int} (h : r.1.1.tsr) : (Th.ended r).1.tsr := by unfold Th.ended; split <;> exact h
theorem Th.step_tsr (o : x.ok) (h : x.tsr) : (x.step A L pick).1.tsr := by
  unfold Th.step
  split
  · exact h
  · have o1 : ({ x with ts := -1, tg := 0 } : Th).ok := { o with }
    have h1 : ({ x with ts := -1, tg := 0 } : Th).tsr := ⟨⟨Int.le_refl (-1), by show (-1 : Int) < 12; decide⟩, h.2⟩
    simp only
    split
    · exact Th.ended_tsr (Th.act_tsr o1 h1)
    · rename_i e
      have b := Th.begin_ok (pick := pick) o1 e
      have bw : (({ x with ts := -1, tg := 0 } : Th).begin pick).1.tsr := by
        unfold Th.begin
        split
        · exact h1
        · split <;> exact h1
      split
      · exact Th.ended_tsr (Th.act_tsr b.1 bw)
      · exact bw
theorem Th.decide_tsr {s : Int} (h : x.tsr) : (x.decide s pick).tsr := by unfold Th.decide; split <;> exact h
end
attribute [local irreducible] bnd ldV stV ifV binV eqI
def entRow (n : Ent) : GObj := .row 195 [i64 n.t, i64 n.e, .bool n.said, .bool n.known, .bool n.over] 5 true
def advRow (d : Adv) : GObj := .row 279 [i64 d.n, i64 d.asked, i64 d.e, .bool d.moved, .bool d.over] 5 true
section
variable {a b : Nat} {A : Ar} {R : List Part} {h : GH} {K : Value → GH → Prop} {n : Ent} {d : Adv}
theorem T_epOf {x : Int} (h1 : x ≤ 9223372036854775807) (hK : K (.tuple #[i64 (valOf x), .bool (epIs x)]) h) : T Tryz.prog 129 [i64 x] h K := by
  apply S129_T
  unfold S129
  refine T_Plain h1 ?_
  refine wk ?_
  unfold epIs at hK
  cases e : (plainOf x).isSome with
  | false =>
    rw [e] at hK
    refine wk ?_
    exact hK
  | true =>
    rw [e, Bool.true_and] at hK
    refine wk ?_
    exact hK
theorem T_epLoad (hp : All (arP 142 a A :: R) h) (hK : ∀ h', All (arP 142 a (A.ld 29) :: R) h' → K (.tuple #[i64 (valOf (A.at 29)), .bool (epIs (A.at 29))]) h') : T Tryz.prog 113 [ptr a] h K := by
  apply S113_T
  unfold S113
  have hA := (arP.at hp).2
  refine L_Load hp (by decide) (by decide) fun h1 hp => ?_
  refine wk ?_
  refine T_epOf (Ar.at_range hA 29).2 ?_
  refine wk ?_
  exact hK _ hp
theorem T_say {t v : Int} (hp : All (arP 142 a A :: R) h) (t0 : 0 ≤ t) (t1 : t < 4) (v0 : 0 ≤ v) (v1 : v < 1099511627776) (hK : ∀ h', All (arP 142 a (A.put (30 + t) (v * 4)) :: R) h' → K (.tuple #[]) h') : T Tryz.prog 112 [ptr a, i64 t, i64 v] h K := by
  apply S112_T
  unfold S112
  refine wk ?_
  refine T_Of (by omega) (by omega) ?_
  refine L_Store hp (by omega) (by omega) (by constructor <;> omega) fun h1 hp => ?_
  exact hK _ hp
theorem T_NewEnter {t : Int} (hp : All R h) (t0 : 0 ≤ t) (t1 : t < 4) (hK : ∀ b h', All (pts b (entRow (.new t)) :: R) h' → K (.tuple #[ptr b, i64 0]) h') : T Tryz.prog 83 [i64 t] h K := by
  apply S83_T
  unfold S83
  refine T_ThreadMay ?_
  rw [decide_eq_true ⟨t0, t1⟩]
  refine wk ?_
  refine nw hp (entRow (.new t)) rfl fun b h1 hp => ?_
  exact hK b _ hp
theorem T_entEpoch (hp : All (pts b (entRow n) :: R) h) (hK : K (i64 n.e) h) : T Tryz.prog 104 [ptr b] h K := by
  apply S104_T
  unfold S104
  unfold entRow at hp
  refine wk ?_
  exact hK
theorem T_enterStep (hp : All (arP 142 a A :: pts b (entRow n) :: R) h) (o : n.ok)
    (hK : ∀ h', All (arP 142 a (n.step A).2.2 :: pts b (entRow (n.step A).1) :: R) h' → K (.tuple #[.bool (n.step A).1.over, i64 (n.step A).2.1]) h') : T Tryz.prog 102 [ptr b, ptr a] h K := by
  apply S102_T
  unfold S102
  have e0 := o.e0; have e1 := o.e1
  obtain ⟨t, e, said, known, over⟩ := n
  simp only at e0 e1
  unfold Ent.step at hK
  unfold entRow at hp hK
  simp only at hp hK
  refine wk ?_
  unfold S102_j1
  refine wk ?_
  cases over with
  | true =>
    refine wk ?_
    exact hK _ hp
  | false =>
    refine wk ?_
    have key : ∀ h', All (arP 142 a A :: pts b (.row 195 [i64 t, i64 e, .bool said, .bool known, .bool false] 5 true) :: R) h' → (known && !said) = false → S102_j3 (ptr b) (ptr a) h' K := by
      intro h' hp hks
      simp only [hks, Bool.false_eq_true, if_false] at hK
      unfold S102_j3
      refine T_epLoad hp fun h1 hp => ?_
      cases hi : epIs (A.at 29) with
      | false =>
        rw [hi] at hK
        refine wk ?_
        refine st1 hp (.row 195 [i64 t, i64 e, .bool said, .bool known, .bool true] 5 true) rfl (Nat.le_of_ble_eq_true rfl) rfl rfl fun h2 hp => ?_
        exact hK _ hp
      | true =>
        rw [hi] at hK
        refine wk ?_
        have fin : ∀ o h2, o = (said && decide (valOf (A.at 29) = e)) → All (arP 142 a (A.ld 29) :: pts b (.row 195 [i64 t, i64 e, .bool said, .bool known, .bool o] 5 true) :: R) h2 → S102_j4 (ptr b) (i64 (valOf (A.at 29))) h2 K := by
          intro o h2 eo hp
          unfold S102_j4
          refine wk ?_
          refine st1 hp (.row 195 [i64 t, i64 (valOf (A.at 29)), .bool said, .bool known, .bool o] 5 true) rfl (Nat.le_of_ble_eq_true rfl) rfl rfl fun h2 hp => ?_
          refine wk ?_
          refine st1 hp (.row 195 [i64 t, i64 (valOf (A.at 29)), .bool said, .bool true, .bool o] 5 true) rfl (Nat.le_of_ble_eq_true rfl) rfl rfl fun h2 hp => ?_
          refine wk ?_
          refine st1 hp (.row 195 [i64 t, i64 (valOf (A.at 29)), .bool false, .bool true, .bool o] 5 true) rfl (Nat.le_of_ble_eq_true rfl) rfl rfl fun h2 hp => ?_
          refine wk ?_
          rw [eo] at hp ⊢
          exact hK _ hp
        cases said with
        | true =>
          refine wk ?_
          refine st1 hp (.row 195 [i64 t, i64 e, .bool true, .bool known, .bool (decide (valOf (A.at 29) = e))] 5 true) rfl (Nat.le_of_ble_eq_true rfl) rfl rfl fun h2 hp => ?_
          exact fin _ _ (by rw [Bool.true_and]) hp
        | false =>
          refine wk ?_
          refine st1 hp (.row 195 [i64 t, i64 e, .bool false, .bool known, .bool false] 5 true) rfl (Nat.le_of_ble_eq_true rfl) rfl rfl fun h2 hp => ?_
          exact fin _ _ (by rw [Bool.false_and]) hp
    cases known with
    | false =>
      refine wk ?_
      unfold S102_j2
      refine wk ?_
      exact key _ hp rfl
    | true =>
      refine wk ?_
      unfold S102_j2
      cases said with
      | true =>
        refine wk ?_
        exact key _ hp rfl
      | false =>
        refine wk ?_
        have t0 := o.t0; have t1 := o.t1
        simp only at t0 t1
        refine T_say hp t0 t1 (by omega) (by omega) fun h1 hp => ?_
        refine wk ?_
        refine st1 hp (.row 195 [i64 t, i64 e, .bool true, .bool true, .bool false] 5 true) rfl (Nat.le_of_ble_eq_true rfl) rfl rfl fun h2 hp => ?_
        exact hK _ hp
theorem T_leave {t : Int} (hp : All (arP 142 a A :: R) h) (t0 : 0 ≤ t) (t1 : t < 4) (hK : ∀ h', All (arP 142 a (A.put (30 + t) 0) :: R) h' → K (i64 0) h') : T Tryz.prog 157 [ptr a, i64 t] h K := by
  apply S157_T
  unfold S157
  refine wk ?_
  refine T_ThreadMay ?_
  rw [decide_eq_true ⟨t0, t1⟩]
  refine wk ?_
  refine T_say hp t0 t1 (by decide) (by decide) fun h1 hp => ?_
  exact hK _ hp
theorem T_NewAdvance {t : Int} (hp : All R h) (t0 : 1 ≤ t) (t1 : t ≤ 4) (hK : ∀ b h', All (pts b (advRow (.new t)) :: R) h' → K (.tuple #[ptr b, i64 0]) h') : T Tryz.prog 155 [i64 t] h K := by
  apply S155_T
  unfold S155
  refine wk ?_
  refine ifV_n (by omega) ?_
  refine wk ?_
  refine ifV_n (by omega) ?_
  refine wk ?_
  refine nw hp (advRow (.new t)) rfl fun b h1 hp => ?_
  exact hK b _ hp
theorem T_advStep (hp : All (arP 142 a A :: pts b (advRow d) :: R) h) (o : d.ok)
    (hK : ∀ h', All (arP 142 a (d.step A).2.2 :: pts b (advRow (d.step A).1) :: R) h' → K (.tuple #[.bool (d.step A).1.over, i64 (d.step A).2.1]) h') : T Tryz.prog 170 [ptr b, ptr a] h K := by
  apply S170_T
  unfold S170
  have n1 := o.n1; have a0 := o.a0; have a1 := o.a1; have e0 := o.e0; have e1 := o.e1; have a2 := o.a2; have e2 := o.e2
  have hA := (arP.at hp).2
  obtain ⟨n, asked, e, moved, over⟩ := d
  simp only at n1 a0 a1 e0 e1 a2 e2
  unfold Adv.step at hK
  unfold advRow at hp hK
  simp only at hp hK
  refine wk ?_
  unfold S170_j1
  cases over with
  | true =>
    refine wk ?_
    exact hK _ hp
  | false =>
    have a2 := a2 rfl
    have e2 := e2 rfl
    simp only [Bool.false_eq_true, if_false] at hK
    refine wk ?_
    unfold S170_j2
    have fin : ∀ (e' : Int) (m ov is : Bool) (B : Ar) h', All (arP 142 a B :: pts b (.row 279 [i64 n, i64 asked, i64 e', .bool m, .bool ov] 5 true) :: R) h' →
        (∀ h', All (arP 142 a B :: pts b (.row 279 [i64 n, i64 (asked + 1), i64 e', .bool m, .bool (if is then ov else true)] 5 true) :: R) h' → K (.tuple #[.bool (if is then ov else true), i64 (if is then 0 else 1100)]) h') → S170_j3 (ptr b) (.bool is) h' K := by
      intro e' m ov is B h' hp hK
      unfold S170_j3
      refine wk ?_
      refine st1 hp (.row 279 [i64 n, i64 (asked + 1), i64 e', .bool m, .bool ov] 5 true) rfl (Nat.le_of_ble_eq_true rfl) rfl rfl fun h2 hp => ?_
      cases is with
      | true =>
        refine wk ?_
        exact hK _ hp
      | false =>
        refine wk ?_
        refine st1 hp (.row 279 [i64 n, i64 (asked + 1), i64 e', .bool m, .bool true] 5 true) rfl (Nat.le_of_ble_eq_true rfl) rfl rfl fun h2 hp => ?_
        exact hK _ hp
    refine wk ?_
    refine ifV_cases (fun c => ?_) fun c => ?_
    · rw [if_pos c] at hK
      refine T_epLoad hp fun h1 hp => ?_
      refine wk ?_
      refine st1 hp (.row 279 [i64 n, i64 asked, i64 (valOf (A.at 29)), .bool moved, .bool false] 5 true) rfl (Nat.le_of_ble_eq_true rfl) rfl rfl fun h2 hp => ?_
      refine fin _ _ _ _ _ _ hp fun h3 hp => ?_
      cases hi : epIs (A.at 29) with
      | true => rw [hi] at hK hp; exact hK _ hp
      | false => rw [hi] at hK hp; exact hK _ hp
    · rw [if_neg c] at hK
      refine wk ?_
      refine ifV_cases (fun c2 => ?_) fun c2 => ?_
      · rw [if_pos c2] at hK
        refine wk ?_
        refine L_Load hp (by omega) (by omega) fun h1 hp => ?_
        refine wk ?_
        refine T_Plain (Ar.at_range hA _).2 ?_
        refine wk ?_
        refine ifN_cases (fun c3 => ?_) fun c3 => ?_
        · refine wk ?_
          refine st1 hp (.row 279 [i64 n, i64 asked, i64 e, .bool moved, .bool (!decide ((plainOf (A.at (30 + asked))).getD 0 = e + 1))] 5 true) rfl (Nat.le_of_ble_eq_true rfl) rfl rfl fun h2 hp => ?_
          refine fin _ _ _ _ _ _ hp fun h3 hp => ?_
          have z : valOf (A.at (30 + asked)) ≠ 0 := c3
          rw [decide_eq_true z, Bool.true_and] at hK
          cases hi : (plainOf (A.at (30 + asked))).isSome with
          | true =>
            rw [hi] at hK hp
            have e3 : (!decide ((plainOf (A.at (30 + asked))).getD 0 = e + 1)) = decide (valOf (A.at (30 + asked)) ≠ e + 1) := by rw [decide_not]; rfl
            rw [e3] at hp ⊢
            exact hK _ hp
          | false => rw [hi] at hK hp; exact hK _ hp
        · refine wk ?_
          refine st1 hp (.row 279 [i64 n, i64 asked, i64 e, .bool moved, .bool false] 5 true) rfl (Nat.le_of_ble_eq_true rfl) rfl rfl fun h2 hp => ?_
          refine fin _ _ _ _ _ _ hp fun h3 hp => ?_
          have z : ¬ valOf (A.at (30 + asked)) ≠ 0 := fun q => q c3
          rw [decide_eq_false z, Bool.false_and] at hK
          cases hi : (plainOf (A.at (30 + asked))).isSome with
          | true => rw [hi] at hK hp; exact hK _ hp
          | false => rw [hi] at hK hp; exact hK _ hp
      · rw [if_neg c2] at hK
        refine wk ?_
        refine T_Of (by omega) (by omega) ?_
        refine wk ?_
        refine T_Of (by omega) (by omega) ?_
        refine L_Swap hp (by decide) (by decide) (by constructor <;> omega) fun h1 hp => ?_
        refine wk ?_
        refine st1 hp (.row 279 [i64 n, i64 asked, i64 e, .bool (decide (A.at 29 = e * 4)), .bool false] 5 true) rfl (Nat.le_of_ble_eq_true rfl) rfl rfl fun h2 hp => ?_
        refine wk ?_
        refine st1 hp (.row 279 [i64 n, i64 asked, i64 e, .bool (decide (A.at 29 = e * 4)), .bool true] 5 true) rfl (Nat.le_of_ble_eq_true rfl) rfl rfl fun h2 hp => ?_
        refine fin _ _ _ true _ _ hp fun h3 hp => ?_
        exact hK _ hp
end
end Go.Proofs.YtcpfkkppfgolaaaGreatDoor
namespace Go.Proofs.YtcpfkkppfgolaaaGreatDoor
open Go GW Go.Proofs
attribute [local irreducible] bnd ldV stV ifV binV eqI
set_option maxRecDepth 20000
def lsRow (U : TypeId) (sz : Nat) (l : Lst) (t : List Value) : GObj := .row U (i64 l.at_ :: i64 l.word :: i64 l.count :: i64 l.first :: .bool l.over :: t) sz true
def popRow (p : Pop) : GObj := lsRow 248 7 p.l [i64 p.next, i64 p.slot]
def pushRow (p : Push) : GObj := lsRow 232 6 p.l [i64 p.slot]
section
variable {a b : Nat} {A : Ar} {R : List Part} {h : GH} {K : Value → GH → Prop} {U : TypeId} {sz : Nat} {l : Lst} {t : List Value}
theorem T_fread {x : Int} (hp : All R h) (h1 : x ≤ 9223372036854775807) (hK : ∀ h', All R h' → K (.tuple #[.agg [i64 (valOf x / 16), i64 (valOf x % 16)].toArray, .bool (hdIs x)]) h') : T Tryz.prog 68 [i64 x] h K := by
  apply S68_T
  unfold S68
  refine nw hp (.row 162 [i64 0, i64 0] 2 true) rfl fun ob h1' hp => ?_
  refine T_Plain h1 ?_
  refine wk ?_
  have v := valOf_bd x
  have ev : (plainOf x).getD 0 = valOf x := rfl
  rw [ev]
  unfold hdIs at hK
  generalize hv : valOf x = y at v hK
  refine bnd_of (quo_nn v.1 (by omega) (by decide)) ?_
  refine bnd_of (rem_nn v.1 (by decide)) ?_
  refine wk ?_
  refine nwst hp (.row 162 [i64 (y / 16), i64 (y % 16)] 2 true) rfl rfl rfl rfl fun hb h2 hp => ?_
  refine la0 hp (c := [i64 (y / 16), i64 (y % 16)]) (Nat.le_refl 2) rfl ?_
  have fin : ∀ (z : Bool) h3, z = ((plainOf x).isSome && (decide (y % 16 ≤ 12) && decide (y / 16 ≤ 1073741823))) → All (pts hb (.row 162 [i64 (y / 16), i64 (y % 16)] 2 true) :: pts ob (.row 162 [i64 (y / 16), i64 (y % 16)] 2 true) :: R) h3 → bnd (ldV 2 true (ptr ob) h3) fun v21 => K (.tuple #[v21, .bool z]) h3 := by
    intro z h3 ez hp
    refine la1 hp (c := [i64 (y / 16), i64 (y % 16)]) (Nat.le_refl 2) rfl ?_
    rw [ez]
    exact hK _ hp.tail.tail
  cases e : (plainOf x).isSome with
  | false =>
    refine wk ?_
    refine st1 hp (.row 162 [i64 (y / 16), i64 (y % 16)] 2 true) rfl (Nat.le_refl 2) rfl rfl fun h3 hp => ?_
    exact fin _ _ (by rw [e]; rfl) hp
  | true =>
    refine wk ?_
    refine ifV_cases (fun c => ?_) fun c => ?_
    · refine wk ?_
      refine st1 hp (.row 162 [i64 (y / 16), i64 (y % 16)] 2 true) rfl (Nat.le_refl 2) rfl rfl fun h3 hp => ?_
      refine wk ?_
      exact fin _ _ (by rw [e, decide_eq_true c]; rfl) hp
    · refine st1 hp (.row 162 [i64 (y / 16), i64 (y % 16)] 2 true) rfl (Nat.le_refl 2) rfl rfl fun h3 hp => ?_
      exact fin _ _ (by rw [e, decide_eq_false c]; rfl) hp
theorem T_fnext {x : Int} (h1 : x ≤ 9223372036854775807) (hK : K (.tuple #[i64 (valOf x), .bool (nxIs x)]) h) : T Tryz.prog 69 [i64 x] h K := by
  apply S69_T
  unfold S69
  refine T_Plain h1 ?_
  refine wk ?_
  unfold nxIs at hK
  cases e : (plainOf x).isSome with
  | false =>
    rw [e] at hK
    refine wk ?_
    exact hK
  | true =>
    rw [e, Bool.true_and] at hK
    refine wk ?_
    exact hK
theorem T_turned {f : Int} (hp : All R h) (c0 : 0 ≤ l.count) (c1 : l.count < 1099511627776) (f0 : 0 ≤ f) (f1 : f ≤ 12) (hK : ∀ h', All R h' → K (i64 (l.turned f)) h') : T Tryz.prog 159 [.agg [i64 l.count, i64 l.first].toArray, i64 f] h K := by
  apply S159_T
  unfold S159
  refine nw hp (.row 162 [i64 l.count, i64 l.first] 2 true) rfl fun ob h1 hp => ?_
  refine wk ?_
  refine bnd_of (rem_nn (by omega) (by decide)) ?_
  refine wk ?_
  refine T_Of (by omega) (by omega) ?_
  exact hK _ hp.tail
theorem T_lload (hp : All (arP 142 a A :: pts b (lsRow U sz l t) :: R) h) (hK : ∀ h', All (arP 142 a (A.ld 16) :: pts b (lsRow U sz (l.loaded A) t) :: R) h' → K (.bool (hdIs (A.at 16))) h') : T Tryz.prog 139 [ptr b, ptr a] h K := by
  apply S139_T
  unfold S139
  have hA := (arP.at hp).2
  obtain ⟨at_, word, count, first, over⟩ := l
  refine L_Load hp (by decide) (by decide) fun h1 hp => ?_
  unfold lsRow at hp
  simp only at hp
  refine wk ?_
  refine st1 hp (.row U (i64 at_ :: i64 (A.at 16) :: i64 count :: i64 first :: .bool over :: t) sz true) rfl (by simp) rfl rfl fun h2 hp => ?_
  refine wk ?_
  refine T_fread hp (Ar.at_range hA 16).2 fun h3 hp => ?_
  refine wk ?_
  refine nwst hp (.row 162 [i64 (valOf (A.at 16) / 16), i64 (valOf (A.at 16) % 16)] 2 true) rfl rfl rfl rfl fun hb h4 hp => ?_
  refine la0 hp (c := [i64 (valOf (A.at 16) / 16), i64 (valOf (A.at 16) % 16)]) (Nat.le_refl 2) rfl ?_
  refine wk ?_
  refine st2 hp (.row U (i64 at_ :: i64 (A.at 16) :: i64 (valOf (A.at 16) / 16) :: i64 (valOf (A.at 16) % 16) :: .bool over :: t) sz true) rfl (by simp) rfl rfl fun h5 hp => ?_
  refine wk ?_
  refine st2 hp (.row U (i64 1 :: i64 (A.at 16) :: i64 (valOf (A.at 16) / 16) :: i64 (valOf (A.at 16) % 16) :: .bool over :: t) sz true) rfl (by simp) rfl rfl fun h6 hp => ?_
  exact hK _ hp.tail
theorem T_lswap {f : Int} (hp : All (arP 142 a A :: pts b (lsRow U sz l t) :: R) h) (o : l.ok) (f0 : 0 ≤ f) (f1 : f ≤ 12) (hK : ∀ h', All (arP 142 a (A.cas 16 l.word (l.turned f)) :: pts b (lsRow U sz { l with at_ := 0 } t) :: R) h' → K (.bool (decide (A.at 16 = l.word))) h') : T Tryz.prog 140 [ptr b, ptr a, i64 f] h K := by
  apply S140_T
  unfold S140
  have c0 := o.c0; have c1 := o.c1
  have tr := Lst.turned_range (l := l) c0 f0 f1
  unfold lsRow at hp hK
  refine wk ?_
  refine la1 hp (c := [i64 l.count, i64 l.first]) (by simp) rfl ?_
  refine T_turned hp c0 c1 f0 f1 fun h1 hp => ?_
  refine wk ?_
  refine L_Swap hp (by decide) (by decide) tr fun h2 hp => ?_
  refine wk ?_
  refine st1 hp (.row U (i64 0 :: i64 l.word :: i64 l.count :: i64 l.first :: .bool l.over :: t) sz true) rfl (by simp) rfl rfl fun h3 hp => ?_
  refine wk ?_
  exact hK _ hp
theorem T_lstep {f : Nat} {c1 c2 : Nat} (hp : All (arP 142 a A :: pts b (lsRow U sz l t) :: R) h)
    (k1 : l.over = true → K (.tuple #[.bool true, i64 0]) h)
    (k2 : l.over = false → T Tryz.prog f [ptr c1, ptr c2] h fun v h' => ∃ e l' t' B, ∃ S : List Part, v = i64 e ∧ All (arP 142 a B :: pts b (lsRow U sz l' t') :: S) h' ∧ ∀ h'', All (arP 142 a B :: pts b (lsRow U sz { l' with over := l'.over || !decide (e = 0) } t') :: S) h'' → K (.tuple #[.bool (l'.over || !decide (e = 0)), i64 e]) h'') :
    T Tryz.prog 137 [ptr b, ptr a, .func (.func f) #[] #[ptr c1, ptr c2]] h K := by
  apply S137_T
  unfold S137
  unfold lsRow at hp k2
  refine wk ?_
  cases ho : l.over with
  | true => rw [ho] at hp; refine wk ?_; exact k1 ho
  | false =>
    refine wk ?_
    refine (k2 ho).mono fun v h1 ⟨e, l', t', B, S, ev, hp, k⟩ => ?_
    subst ev
    refine wk ?_
    cases hl : l'.over with
    | true =>
      rw [hl] at k hp
      refine wk ?_
      refine st1 hp (.row U (i64 l'.at_ :: i64 l'.word :: i64 l'.count :: i64 l'.first :: .bool true :: t') sz true) rfl (by simp) rfl rfl fun h2 hp => ?_
      refine wk ?_
      exact k _ hp
    | false =>
      rw [hl] at k hp
      refine wk ?_
      refine st1 hp (.row U (i64 l'.at_ :: i64 l'.word :: i64 l'.count :: i64 l'.first :: .bool (!decide (e = 0)) :: t') sz true) rfl (by simp) rfl rfl fun h2 hp => ?_
      refine wk ?_
      exact k _ hp
end
end Go.Proofs.YtcpfkkppfgolaaaGreatDoor
namespace Go.Proofs.YtcpfkkppfgolaaaGreatDoor
open Go GW Go.Proofs
attribute [local irreducible] bnd ldV stV ifV binV eqI
set_option maxRecDepth 20000
section
variable {a b c1 c2 : Nat} {A : Ar} {R : List Part} {h : GH} {K : Value → GH → Prop} {p : Pop} {u : Push}
theorem T_NewPop (hp : All R h) (hK : ∀ b h', All (pts b (popRow .new) :: R) h' → K (ptr b) h') : T Tryz.prog 133 [] h K := by
  apply S133_T
  unfold S133
  refine wk ?_
  refine nw hp (popRow .new) rfl fun b h1 hp => ?_
  exact hK b _ hp
theorem T_NewPush {s : Int} (hp : All R h) (h0 : 0 ≤ s) (h1 : s < 12) (hK : ∀ b h', All (pts b (pushRow (.new s)) :: R) h' → K (.tuple #[ptr b, i64 0]) h') : T Tryz.prog 118 [i64 s] h K := by
  apply S118_T
  unfold S118
  refine T_Below ?_
  rw [decide_eq_true ⟨h0, h1⟩]
  refine wk ?_
  refine nw hp (pushRow (.new s)) rfl fun b h1 hp => ?_
  exact hK b _ hp
theorem T_popSlot (hp : All (pts b (popRow p) :: R) h) (hK : K (i64 p.slot) h) : T Tryz.prog 135 [ptr b] h K := by
  apply S135_T
  unfold S135
  unfold popRow lsRow at hp
  refine wk ?_
  exact hK
theorem T_pop1 (hp : All (arP 142 a A :: pts b (popRow p) :: pts c1 (.row 117 [ptr b] 1 true) :: pts c2 (.row 71 [ptr a] 1 true) :: R) h) (o : p.ok) (ho : p.l.over = false)
    (hK : ∀ e p' B h', p.step A = ({ p' with l := { p'.l with over := p'.l.over || !decide (e = 0) } }, e, B) → All (arP 142 a B :: pts b (popRow p') :: R) h' → K (i64 e) h') : T Tryz.prog 154 [ptr c1, ptr c2] h K := by
  apply S154_T
  unfold S154
  have hA := (arP.at hp).2
  have ol := o.l
  have a0 := ol.a0; have a1 := ol.a1
  unfold popRow at hp
  have hs : p.step A = if p.l.at_ = 0 then
    (if hdIs (A.at 16) then ({ p with l := { p.l.loaded A with over := decide (valOf (A.at 16) % 16 = 0) } }, 0, A.ld 16)
    else ({ p with l := { p.l.loaded A with over := true } }, 1000, A.ld 16))
  else if p.l.at_ = 1 then
    (if nxIs (A.at (17 + p.l.first - 1)) then ({ p with l := { p.l with at_ := 2 }, next := valOf (A.at (17 + p.l.first - 1)) }, 0, A.ld (17 + p.l.first - 1))
    else ({ p with l := { p.l with at_ := 2, over := true }, next := valOf (A.at (17 + p.l.first - 1)) }, 1000, A.ld (17 + p.l.first - 1)))
  else if A.at 16 = p.l.word then ({ p with l := { p.l with at_ := 0, over := true }, slot := p.l.first - 1 }, 0, A.cas 16 p.l.word (p.l.turned p.next))
  else ({ p with l := { p.l with at_ := 0 } }, 0, A.cas 16 p.l.word (p.l.turned p.next)) := by
    unfold Pop.step; rw [if_neg (by rw [ho]; decide)]
  rw [hs] at hK
  clear hs
  unfold lsRow at hp
  refine wk ?_
  refine ifV_cases (fun c => ?_) fun c => ?_
  · rw [if_pos c] at hK
    refine wk ?_
    refine T_lload (l := p.l) hp fun h1 hp => ?_
    unfold lsRow at hp
    refine wk ?_
    refine st1 hp (lsRow 248 7 { p.l.loaded A with over := decide (valOf (A.at 16) % 16 = 0) } [i64 p.next, i64 p.slot]) rfl (by simp) rfl rfl fun h2 hp => ?_
    have hp2 := hp.re 4 [0, 1]
    cases hd : hdIs (A.at 16) with
    | true =>
      rw [hd] at hK
      refine wk ?_
      exact hK 0 { p with l := { p.l.loaded A with over := decide (valOf (A.at 16) % 16 = 0) } } _ _ (by simp) hp2
    | false =>
      rw [hd] at hK
      refine wk ?_
      exact hK 1000 { p with l := { p.l.loaded A with over := decide (valOf (A.at 16) % 16 = 0) } } _ _ (by simp) hp2
  · rw [if_neg c] at hK
    refine bnd_of (eqI_int _ _ _) ?_
    refine ifV_cases (fun c2 => ?_) fun c2 => ?_
    · rw [if_pos c2] at hK
      have f := o.f ho c
      refine wk ?_
      refine L_Load hp (by omega) (by omega) fun h1 hp => ?_
      refine wk ?_
      refine T_fnext (Ar.at_range hA _).2 ?_
      refine wk ?_
      refine st1 hp (lsRow 248 7 p.l [i64 (valOf (A.at (17 + p.l.first - 1))), i64 p.slot]) rfl (by simp) rfl rfl fun h2 hp => ?_
      unfold lsRow at hp
      refine wk ?_
      refine st1 hp (lsRow 248 7 { p.l with at_ := 2 } [i64 (valOf (A.at (17 + p.l.first - 1))), i64 p.slot]) rfl (by simp) rfl rfl fun h3 hp => ?_
      have hp2 := hp.re 4 [0, 1]
      cases hd : nxIs (A.at (17 + p.l.first - 1)) with
      | true =>
        rw [hd] at hK
        refine wk ?_
        exact hK 0 { p with l := { p.l with at_ := 2 }, next := valOf (A.at (17 + p.l.first - 1)) } _ _ (by simp) hp2
      | false =>
        rw [hd] at hK
        refine wk ?_
        exact hK 1000 { p with l := { p.l with at_ := 2 }, next := valOf (A.at (17 + p.l.first - 1)) } _ _ (by simp) hp2
    · rw [if_neg c2] at hK
      have f := o.f ho c
      have n := o.n2 ho (by omega)
      refine wk ?_
      refine T_lswap (l := p.l) hp ol o.n0 n fun h1 hp => ?_
      unfold lsRow at hp
      refine ifV_cases (fun c3 => ?_) fun c3 => ?_
      · rw [if_pos c3] at hK
        refine wk ?_
        refine st1 hp (lsRow 248 7 { p.l with at_ := 0 } [i64 p.next, i64 (p.l.first - 1)]) rfl (by simp) rfl rfl fun h2 hp => ?_
        unfold lsRow at hp
        refine wk ?_
        refine st1 hp (lsRow 248 7 { p.l with at_ := 0, over := true } [i64 p.next, i64 (p.l.first - 1)]) rfl (by simp) rfl rfl fun h3 hp => ?_
        refine wk ?_
        exact hK 0 { p with l := { p.l with at_ := 0, over := true }, slot := p.l.first - 1 } _ _ (by simp) (hp.re 4 [0, 1])
      · rw [if_neg c3] at hK
        refine wk ?_
        exact hK 0 { p with l := { p.l with at_ := 0 } } _ _ (by simp) (hp.re 4 [0, 1])
theorem T_popStep (hp : All (arP 142 a A :: pts b (popRow p) :: R) h) (o : p.ok)
    (hK : ∀ h', All (arP 142 a (p.step A).2.2 :: pts b (popRow (p.step A).1) :: R) h' → K (.tuple #[.bool (p.step A).1.l.over, i64 (p.step A).2.1]) h') : T Tryz.prog 134 [ptr b, ptr a] h K := by
  apply S134_T
  unfold S134
  refine nw hp (.row 117 [ptr b] 1 true) rfl fun v1 h1 hp => ?_
  refine nw hp (.row 71 [ptr a] 1 true) rfl fun v3 h2 hp => ?_
  refine wk ?_
  replace hp := hp.re 4 [2, 3, 1, 0]
  replace hp := hn hp
  refine T_lstep (l := p.l) (t := [i64 p.next, i64 p.slot]) hp (fun ho => ?_) fun ho => ?_
  · refine wk ?_
    have hs : p.step A = (p, 0, A) := by unfold Pop.step; rw [if_pos ho]
    rw [hs] at hK
    have := hK _ (hp.re 4 [0, 1])
    rw [ho] at this
    exact this
  · refine T_pop1 hp o ho fun e p' B h3 es hp => ?_
    refine ⟨e, p'.l, [i64 p'.next, i64 p'.slot], B, R, rfl, hp, fun h4 hp => ?_⟩
    rw [es] at hK
    refine wk ?_
    exact hK _ hp
theorem T_push1 (hp : All (arP 142 a A :: pts b (pushRow u) :: pts c1 (.row 116 [ptr b] 1 true) :: pts c2 (.row 71 [ptr a] 1 true) :: R) h) (o : u.ok) (ho : u.l.over = false)
    (hK : ∀ e u' B h', u.step A = ({ u' with l := { u'.l with over := u'.l.over || !decide (e = 0) } }, e, B) → All (arP 142 a B :: pts b (pushRow u') :: R) h' → K (i64 e) h') : T Tryz.prog 138 [ptr c1, ptr c2] h K := by
  apply S138_T
  unfold S138
  have hA := (arP.at hp).2
  have ol := o.l
  have s0 := o.s0; have s1 := o.s1; have f0 := ol.f0; have f1 := ol.f1
  unfold pushRow at hp
  have hs : u.step A = if u.l.at_ = 0 then
    (if hdIs (A.at 16) then ({ u with l := u.l.loaded A }, 0, A.ld 16) else ({ u with l := { u.l.loaded A with over := true } }, 1000, A.ld 16))
  else if u.l.at_ = 1 then ({ u with l := { u.l with at_ := 2 } }, 0, A.put (17 + u.slot) (u.l.first * 4))
  else ({ u with l := { u.l with at_ := 0, over := decide (A.at 16 = u.l.word) } }, 0, A.cas 16 u.l.word (u.l.turned (u.slot + 1))) := by
    unfold Push.step; rw [if_neg (by rw [ho]; decide)]
  rw [hs] at hK
  clear hs
  unfold lsRow at hp
  refine wk ?_
  refine ifV_cases (fun c => ?_) fun c => ?_
  · rw [if_pos c] at hK
    refine wk ?_
    refine T_lload (l := u.l) hp fun h1 hp => ?_
    have lov : (u.l.loaded A).over = false := ho
    cases hd : hdIs (A.at 16) with
    | true =>
      rw [hd] at hK
      refine wk ?_
      exact hK 0 { u with l := u.l.loaded A } _ _ (by simp) (hp.re 4 [0, 1])
    | false =>
      rw [hd] at hK
      refine wk ?_
      exact hK 1000 { u with l := u.l.loaded A } _ _ (by simp) (hp.re 4 [0, 1])
  · rw [if_neg c] at hK
    refine bnd_of (eqI_int _ _ _) ?_
    refine ifV_cases (fun c2 => ?_) fun c2 => ?_
    · rw [if_pos c2] at hK
      refine wk ?_
      refine T_Of (by omega) (by omega) ?_
      refine wk ?_
      refine L_Store hp (by omega) (by omega) (by constructor <;> omega) fun h1 hp => ?_
      refine wk ?_
      refine st1 hp (lsRow 232 6 { u.l with at_ := 2 } [i64 u.slot]) rfl (by simp) rfl rfl fun h3 hp => ?_
      exact hK 0 { u with l := { u.l with at_ := 2 } } _ _ (by simp) (hp.re 4 [0, 1])
    · rw [if_neg c2] at hK
      refine wk ?_
      refine T_lswap (l := u.l) hp ol (by omega) (by omega) fun h1 hp => ?_
      unfold lsRow at hp
      refine wk ?_
      refine st1 hp (lsRow 232 6 { u.l with at_ := 0, over := decide (A.at 16 = u.l.word) } [i64 u.slot]) rfl (by simp) rfl rfl fun h3 hp => ?_
      exact hK 0 { u with l := { u.l with at_ := 0, over := decide (A.at 16 = u.l.word) } } _ _ (by simp) (hp.re 4 [0, 1])
theorem T_pushStep (hp : All (arP 142 a A :: pts b (pushRow u) :: R) h) (o : u.ok)
    (hK : ∀ h', All (arP 142 a (u.step A).2.2 :: pts b (pushRow (u.step A).1) :: R) h' → K (.tuple #[.bool (u.step A).1.l.over, i64 (u.step A).2.1]) h') : T Tryz.prog 119 [ptr b, ptr a] h K := by
  apply S119_T
  unfold S119
  refine nw hp (.row 116 [ptr b] 1 true) rfl fun v1 h1 hp => ?_
  refine nw hp (.row 71 [ptr a] 1 true) rfl fun v3 h2 hp => ?_
  refine wk ?_
  replace hp := hp.re 4 [2, 3, 1, 0]
  replace hp := hn hp
  refine T_lstep (l := u.l) (t := [i64 u.slot]) hp (fun ho => ?_) fun ho => ?_
  · refine wk ?_
    have hs : u.step A = (u, 0, A) := by unfold Push.step; rw [if_pos ho]
    rw [hs] at hK
    have := hK _ (hp.re 4 [0, 1])
    rw [ho] at this
    exact this
  · refine T_push1 hp o ho fun e u' B h3 es hp => ?_
    refine ⟨e, u'.l, [i64 u'.slot], B, R, rfl, hp, fun h4 hp => ?_⟩
    rw [es] at hK
    refine wk ?_
    exact hK _ hp
end
end Go.Proofs.YtcpfkkppfgolaaaGreatDoor
namespace Go.Proofs.YtcpfkkppfgolaaaGreatDoor
open Go GW Go.Proofs
set_option maxRecDepth 20000
def actV : Option Act → Value
  | none => .nilFunc
  | some .ent => .func (.func 84) #[] #[]
  | some .fre => .func (.func 105) #[] #[]
  | some .tak => .func (.func 117) #[] #[]
  | some .tri => .func (.func 132) #[] #[]
  | some .ret => .func (.func 153) #[] #[]
  | some .lea => .func (.func 136) #[] #[]
  | some .adv => .func (.func 156) #[] #[]
structure ThV where
  tv : Value
  ev : Value
  cv : Value
  lv : Value
  rv : Value
  ep : Value
  up : Value
  pp : Value
  ap : Value
  dp : Value
def thRow (x : Th) (v : ThV) : GObj := .row 123 [i64 x.id, i64 x.n, i64 x.k, .bool x.pol, v.tv, v.ev, actV x.next, .bool x.dead, i64 x.tries, i64 x.pause, i64 x.seq, v.cv, v.lv, v.rv, i64 x.slot, v.ep, v.up, v.pp, v.ap, v.dp, i64 x.end_, i64 x.ts, i64 x.tg] 23 true
def opP {α : Type} (P : Nat → α → Part) (v : Value) : Option α → Part
  | none => fun _ => v = .pointer none
  | some a => fun h => ∃ b, v = ptr b ∧ P b a h
def rdP (v : Value) (us : List Int) : Part := fun h => rowsAt h 1 v (us.map encI)
def tvP (v : Value) (ts : List (List Op)) : Part := fun h => ∃ cs, rowsAt h 1 v cs ∧ All2 (fun c t => ∃ w, c = [w] ∧ rowsAt h 4 w (t.map Op.enc)) cs ts
def evCs (es : List Event) (ws : List Value) : List (List Value) := List.zipWith Event.cells es ws
def ansP (ws : List Value) (es : List Event) : Part := fun h => ∀ (i : Nat) e w, es[i]? = some e → ws[i]? = some w → rowsAt h 2 w (e.answers.map Answer.enc)
def evP (v : Value) (ws : List Value) (es : List Event) : Part := fun h => ws.length = es.length ∧ rowP 8 v (evCs es ws) h
def evsP (v : Value) (es : List Event) : Part := fun h => ∃ ws, All [evP v ws es, ansP ws es] h
def entP (b : Nat) (n : Ent) : Part := pts b (entRow n)
def pushP (b : Nat) (n : Push) : Part := pts b (pushRow n)
def popP (b : Nat) (n : Pop) : Part := pts b (popRow n)
def advP (b : Nat) (n : Adv) : Part := pts b (advRow n)
def thP (b : Nat) (x : Th) : Part := fun h => ∃ v : ThV, All [pts b (thRow x v), tvP v.tv x.txns, evsP v.ev x.evs, rowP 1 v.cv (x.cache.map encI), rowP 2 v.lv (x.limbo.map Ret.enc), rdP v.rv x.ripe, opP entP v.ep x.ent, opP pushP v.up x.push, opP popP v.pp x.pop, opP attP v.ap x.att, opP advP v.dp x.adv] h
section
variable {a b c : Nat} {A : Ar} {R : List Part} {h : GH} {K : Value → GH → Prop} {x : Th}
theorem All.mono1 {P : Part} {l : List Part} (a : All (P :: l) h) (m : ∀ h h', HLe h h' → P h → P h') : P h := by
  obtain ⟨h1, h2, _, l1, _, p, _⟩ := a
  exact m _ _ l1 p
theorem rdP.mono {v : Value} {us : List Int} : ∀ h h', HLe h h' → rdP v us h → rdP v us h' := fun _ _ l p => rowsAt.le p l
theorem ansP.mono {ws : List Value} {es : List Event} : ∀ h h', HLe h h' → ansP ws es h → ansP ws es h' := fun _ _ l p i e w h1 h2 => (p i e w h1 h2).le l
theorem rowsAt.tl {v : Value} {u : Int} {us : List Int} (r : rowsAt h 1 v ((u :: us).map encI)) : ∃ v', slV 1 v (some (i64 1)) none = some v' ∧ rowsAt h 1 v' (us.map encI) := by
  obtain ⟨ad, n, cap, rfl, hl, h2, h3, hr⟩ := r
  simp only [List.map_cons, List.length_cons, List.length_map] at hl
  have e : slV 1 (.slice ad n cap) (some (i64 1)) none = some (.slice (if cap = 1 then ad else ad.map (·.add (1 * 1))) (n - 1) (cap - 1)) := by
    have s1 : sbV none cap n = some n := by unfold sbV; simp
    have s2 : sbV (some (i64 1)) n 0 = some 1 := by unfold sbV; simp; omega
    simp only [slV, s1, s2]
  refine ⟨_, e, _, _, _, rfl, by simp only [List.length_map]; omega, by omega, by omega, fun i c hc => ?_⟩
  have := hr (i + 1) c (by rw [List.map_cons, List.getElem?_cons_succ]; exact hc)
  obtain ⟨b, off, T, pre, sz, f, e1, e2, e3, e4⟩ := this
  have hi : i < us.length := by have := (List.getElem?_eq_some_iff.1 hc).1; rwa [List.length_map] at this
  refine ⟨b, off + 1, T, pre, sz, f, ?_, e2, by omega, ?_⟩
  · rw [if_neg (by omega), e1]; rfl
  · rw [← e4]; congr 2; omega
theorem All.rd {v : Value} {us : List Int} (hp : All (rdP v us :: R) h) : rowsAt h 1 v (us.map encI) := hp.mono1 rdP.mono
theorem All.rdTl {v : Value} {u : Int} {us : List Int} (hp : All (rdP v (u :: us) :: R) h) : ∃ v', slV 1 v (some (i64 1)) none = some v' ∧ All (rdP v' us :: R) h := by
  obtain ⟨h1, h2, d, l1, l2, p, q⟩ := hp
  obtain ⟨v', e, r⟩ := rowsAt.tl p
  exact ⟨v', e, h1, h2, d, l1, l2, r, q⟩
section
variable {α : Type} {P : Nat → α → Part} {v : Value} {y : α}
theorem opP_none (hp : All (opP P v none :: R) h) : v = .pointer none := All.case hp fun h1 p _ => p
theorem opP_some (hp : All (opP P v (some y) :: R) h) : ∃ b, v = ptr b ∧ All (P b y :: R) h := by
  obtain ⟨b, hp⟩ := All.ex hp
  obtain ⟨e, hp⟩ := All.pure hp
  exact ⟨b, e, hp⟩
theorem opP_mk {b : Nat} (hp : All (P b y :: R) h) : All (opP P (ptr b) (some y) :: R) h := hp.head fun _ p => ⟨b, rfl, p⟩
theorem opP_no (hp : All R h) : All (opP P (.pointer none) none :: R) h := hp.emp_cons rfl
end
theorem thP_open {C : Prop} (hp : All (thP b x :: R) h) (k : ∀ v : ThV, All (pts b (thRow x v) :: tvP v.tv x.txns :: evsP v.ev x.evs :: rowP 1 v.cv (x.cache.map encI) :: rowP 2 v.lv (x.limbo.map Ret.enc) :: rdP v.rv x.ripe :: opP entP v.ep x.ent :: opP pushP v.up x.push :: opP popP v.pp x.pop :: opP attP v.ap x.att :: opP advP v.dp x.adv :: R) h → C) : C := by
  obtain ⟨v, hp⟩ := All.ex hp
  exact k v (All.flat hp)
theorem thP_shut {v : ThV} (hp : All (pts b (thRow x v) :: tvP v.tv x.txns :: evsP v.ev x.evs :: rowP 1 v.cv (x.cache.map encI) :: rowP 2 v.lv (x.limbo.map Ret.enc) :: rdP v.rv x.ripe :: opP entP v.ep x.ent :: opP pushP v.up x.push :: opP popP v.pp x.pop :: opP attP v.ap x.att :: opP advP v.dp x.adv :: R) h) : All (thP b x :: R) h :=
  (All.fold (l := [_, _, _, _, _, _, _, _, _, _, _]) hp).head fun h1 z => ⟨v, z⟩
theorem evsP_open {C : Prop} {v : Value} {es : List Event} (hp : All (evsP v es :: R) h) (k : ∀ ws, ws.length = es.length → All (rowP 8 v (evCs es ws) :: ansP ws es :: R) h → C) : C := by
  obtain ⟨ws, hp⟩ := All.ex hp
  have hp : All (evP v ws es :: ansP ws es :: R) h := All.flat hp
  obtain ⟨e, hp⟩ := All.pure hp
  exact k ws e hp
theorem evsP_shut {v : Value} {ws : List Value} {es : List Event} (hl : ws.length = es.length) (hp : All (rowP 8 v (evCs es ws) :: ansP ws es :: R) h) : All (evsP v es :: R) h :=
  (All.fold (l := [evP v ws es, ansP ws es]) (hp.head fun _ z => ⟨hl, z⟩)).head fun h1 z => ⟨ws, z⟩
theorem evCs_get {es : List Event} {ws : List Value} {i : Nat} {e : Event} {w : Value} (h1 : es[i]? = some e) (h2 : ws[i]? = some w) : (evCs es ws)[i]? = some (e.cells w) := by
  unfold evCs; rw [List.getElem?_zipWith, h1, h2]
theorem evCs_len {es : List Event} {ws : List Value} (hl : ws.length = es.length) : (evCs es ws).length = es.length := by unfold evCs; rw [List.length_zipWith]; omega
theorem evCs_set {es : List Event} {ws : List Value} (hl : ws.length = es.length) {i : Nat} {e : Event} {w : Value} : (evCs es ws).set i (e.cells w) = evCs (es.set i e) (ws.set i w) := by
  refine List.ext_getElem? fun j => ?_
  unfold evCs
  rw [List.getElem?_set, List.getElem?_zipWith, List.getElem?_zipWith, List.getElem?_set, List.getElem?_set, List.length_zipWith]
  by_cases h : i = j
  · subst h
    rw [if_pos rfl, if_pos rfl, if_pos rfl]
    by_cases hi : i < es.length
    · rw [if_pos (by omega), if_pos hi, if_pos (by omega)]
    · rw [if_neg (by omega), if_neg hi]
  · rw [if_neg h, if_neg h, if_neg h]
theorem evP_len {v : Value} {es : List Event} (hp : All (evsP v es :: R) h) : lnV v = some (i64 es.length) := by
  refine evsP_open hp fun ws hl hp => ?_
  have := All.len hp
  rw [evCs_len hl] at this; exact this
end
attribute [local irreducible] bnd ldV stV ifV binV eqI
def trRow (b a : Nat) (lp : Value) (pick : Int) : GObj := .row 130 [ptr b, ptr a, lp, i64 pick] 4 true
def lvRow (U : TypeId) (sz : Nat) (pre : List Value) (L : List Int) (post : List Value) : GObj := .row U (pre ++ (L.map i64 ++ post)) sz true
section
variable {P1 P2 P3 : Part} {b : Nat} {x : Th} {R : List Part} {h : GH}
theorem tho {C : Prop} (hp : All (P1 :: P2 :: P3 :: thP b x :: R) h) (k : ∀ v : ThV, All (pts b (thRow x v) :: P2 :: P1 :: P3 :: tvP v.tv x.txns :: evsP v.ev x.evs :: rowP 1 v.cv (x.cache.map encI) :: rowP 2 v.lv (x.limbo.map Ret.enc) :: rdP v.rv x.ripe :: opP entP v.ep x.ent :: opP pushP v.up x.push :: opP popP v.pp x.pop :: opP attP v.ap x.att :: opP advP v.dp x.adv :: R) h → C) : C :=
  thP_open (hn (hp.up 3)) fun v hp => k v (hn (hp.re 14 [0, 12, 11, 13, 1, 2, 3, 4, 5, 6, 7, 8, 9, 10]))
theorem ths {v : ThV} (hp : All (pts b (thRow x v) :: P2 :: P1 :: P3 :: tvP v.tv x.txns :: evsP v.ev x.evs :: rowP 1 v.cv (x.cache.map encI) :: rowP 2 v.lv (x.limbo.map Ret.enc) :: rdP v.rv x.ripe :: opP entP v.ep x.ent :: opP pushP v.up x.push :: opP popP v.pp x.pop :: opP attP v.ap x.att :: opP advP v.dp x.adv :: R) h) : All (P1 :: P2 :: P3 :: thP b x :: R) h :=
  hn ((thP_shut (v := v) (hn (hp.re 14 [0, 4, 5, 6, 7, 8, 9, 10, 11, 12, 13, 2, 1, 3]))).re 4 [1, 2, 3, 0])
end
section
variable {a b tb lb sz : Nat} {U : TypeId} {pre post : List Value} {lp : Value} {pick : Int} {A : Ar} {L : List Int} {R : List Part} {h : GH} {K : Value → GH → Prop} {x : Th} {P3 : Part}
theorem T_enterStepNil (hK : K (.tuple #[.bool false, i64 1]) h) : T Tryz.prog 102 [.pointer none, ptr a] h K := by
  apply S102_T
  unfold S102
  refine wk ?_
  unfold S102_j1
  refine wk ?_
  exact hK
theorem T_advStepNil (hK : K (.tuple #[.bool false, i64 1]) h) : T Tryz.prog 170 [.pointer none, ptr a] h K := by
  apply S170_T
  unfold S170
  refine wk ?_
  unfold S170_j1
  refine wk ?_
  exact hK
theorem T_tries (hp : All (arP 142 a A :: pts tb (trRow b a lp pick) :: P3 :: thP b x :: R) h) (ho : ∀ n, x.att = some n → n.ok)
    (hK : ∀ h', All (arP 142 a (x.tris A).2.2 :: pts tb (trRow b a lp pick) :: P3 :: thP b (x.tris A).1 :: R) h' → K (i64 (x.tris A).2.1) h') : T Tryz.prog 132 [ptr tb] h K := by
  apply S132_T
  unfold S132
  refine tho hp fun v hp => ?_
  unfold thRow trRow at hp
  refine wk ?_
  unfold Th.tris at hK
  cases he : x.att with
  | none =>
    rw [he] at hp hK
    dsimp only at hK
    have e := opP_none (hp.up 12)
    rw [e] at hp ⊢
    refine wk ?_
    refine hK _ (ths (v := v) ?_)
    unfold thRow trRow
    rw [he, e]
    exact hp
  | some y =>
    rw [he] at hp hK
    dsimp only at hK
    have oy := ho y he
    obtain ⟨yb, e, hp1⟩ := opP_some (hp.up 12)
    -- att, row, tb, ar, ..
    replace hp := hp1
    replace hp := Go.Proofs.YtcpfkkppfgolaaaGreatDoor.hn hp
    rw [e] at hp ⊢
    replace hp := hp.re 4 [1, 2, 3, 0]
    replace hp := Go.Proofs.YtcpfkkppfgolaaaGreatDoor.hn hp
    refine wk ?_
    replace hp := hp.re 4 [2, 3, 0, 1]
    replace hp := Go.Proofs.YtcpfkkppfgolaaaGreatDoor.hn hp
    refine T_atStep hp oy fun h1 hp => ?_
    replace hp := hp.re 4 [2, 3, 0, 1]
    replace hp := Go.Proofs.YtcpfkkppfgolaaaGreatDoor.hn hp
    refine wk ?_
    refine T_atThrough (hp.up 3) ?_
    refine wk ?_
    refine st0 hp (thRow { x with ts := (y.step A).1.ts } { v with ap := ptr yb }) rfl (Nat.le_of_ble_eq_true rfl) rfl rfl fun h2 hp => ?_
    unfold thRow at hp
    refine wk ?_
    refine st0 hp (thRow { x with ts := (y.step A).1.ts, tg := (y.step A).1.tg } { v with ap := ptr yb }) rfl (Nat.le_of_ble_eq_true rfl) rfl rfl fun h3 hp => ?_
    unfold thRow at hp
    refine wk ?_
    refine T_atSeq (hp.up 3) ?_
    refine wk ?_
    refine st0 hp (thRow { x with ts := (y.step A).1.ts, tg := (y.step A).1.tg, seq := (y.step A).1.q } { v with ap := ptr yb }) rfl (Nat.le_of_ble_eq_true rfl) rfl rfl fun h4 hp => ?_
    cases hov : (y.step A).1.over with
    | true =>
      rw [hov, if_pos rfl] at hK
      unfold thRow at hp
      refine wk ?_
      refine st0 hp (thRow { x with ts := (y.step A).1.ts, tg := (y.step A).1.tg, seq := (y.step A).1.q, next := some .ret } { v with ap := ptr yb }) rfl (Nat.le_of_ble_eq_true rfl) rfl rfl fun h5 hp => ?_
      refine hK _ (ths (v := { v with ap := ptr yb }) ?_)
      have hp2 := opP_mk (P := attP) (hp.up 3)
      exact hn (hp2.re 13 [1, 2, 3, 4, 5, 6, 7, 8, 9, 10, 11, 12, 0])
    | false =>
      rw [hov, if_neg (by decide)] at hK
      refine wk ?_
      refine hK _ (ths (v := { v with ap := ptr yb }) ?_)
      have hp2 := opP_mk (P := attP) (hp.up 3)
      exact hn (hp2.re 13 [1, 2, 3, 4, 5, 6, 7, 8, 9, 10, 11, 12, 0])
end
end Go.Proofs.YtcpfkkppfgolaaaGreatDoor
namespace Go.Proofs.YtcpfkkppfgolaaaGreatDoor
open Go GW Go.Proofs
attribute [local irreducible] bnd ldV stV ifV binV eqI
set_option maxRecDepth 20000
theorem ret_good (rs : List Ret) : ∀ c ∈ rs.map Ret.enc, good 2 c := by
  intro c hc
  obtain ⟨t, _, rfl⟩ := List.mem_map.1 hc
  exact ⟨rfl, rfl⟩
section
variable {R : List Part} {h : GH} {K : Value → GH → Prop}
theorem T_epochMay {e : Int} (hK : K (.bool (decide (0 ≤ e ∧ e < 1073741824))) h) : T Tryz.prog 116 [i64 e] h K := by
  apply S116_T
  exact T_Below hK
theorem T_limboNot {r : Ret} (hp : All R h) (g : r.good) (hK : ∀ h', All R h' → K (.bool false) h') : T Tryz.prog 115 [.agg r.enc.toArray] h K := by
  apply S115_T
  unfold S115
  refine nw hp (.row 211 [i64 r.slot, i64 r.epoch] 2 true) rfl fun b h1 hp => ?_
  refine wk ?_
  refine T_Below ?_
  rw [decide_eq_true g.1]
  refine wk ?_
  refine T_epochMay ?_
  rw [decide_eq_true g.2]
  refine wk ?_
  exact hK _ hp.tail
theorem T_noneNot {v : Value} {rs : List Ret} (hp : All R h) (r : ∀ h', All R h' → rowsAt h' 2 v (rs.map Ret.enc)) (g : ∀ r ∈ rs, r.good) (hK : ∀ h', All R h' → K (.bool false) h') : T Tryz.prog 114 [v, .func (.func 115) #[] #[]] h K := by
  apply S114_T
  unfold S114
  apply S130_T
  unfold S130
  have hl : lnV v = some (i64 rs.length) := by have := (r _ hp).len; rw [List.length_map] at this; exact this
  have hm : rs.length ≤ 9223372036854775807 := by have := (r _ hp).max; rw [List.length_map] at this; exact this
  refine bnd_of hl ?_
  refine Lfp_fam (ι := Nat) (fun i => [v, .func (.func 115) #[] #[], i64 rs.length, i64 i]) (fun i h' => i ≤ rs.length ∧ All R h') (fun i => rs.length - i) ?_ 0 h ⟨by omega, hp⟩
  clear hp
  rintro i h1 X ⟨hi, hp⟩ again
  simp only [tup_zero, tup_succ]
  refine wk ?_
  refine ifV_cases (fun c => ?_) fun c => ?_
  · obtain ⟨y, hy⟩ : ∃ y, rs[i]? = some y := ⟨_, List.getElem?_eq_getElem (by omega)⟩
    obtain ⟨p, d1, d2⟩ := (r _ hp).get (i := i) (c := y.enc) (by rw [List.getElem?_map, hy]; rfl) .i64
    refine bnd_of d1 (bnd_of d2 ?_)
    refine T_limboNot hp (g y (List.mem_of_getElem? hy)) fun h2 hp => ?_
    refine wk ?_
    exact again (i + 1) _ ⟨by omega, hp⟩ (by omega)
  · refine wk ?_
    exact hK _ hp
theorem ripes_snoc (rs : List Ret) (e : Int) (x : Ret) : ripes (rs ++ [x]) e = ripes rs e ++ if isRipe e x = true then [x.slot] else [] := by
  unfold ripes; rw [List.filter_append]; by_cases hx : isRipe e x = true <;> simp [hx]
theorem rests_snoc (rs : List Ret) (e : Int) (x : Ret) : rests (rs ++ [x]) e = rests rs e ++ if isRipe e x = true then [] else [x] := by
  unfold rests; rw [List.filter_append]; by_cases hx : isRipe e x = true <;> simp [hx]
theorem T_limboTake {v : Value} {rs : List Ret} {e : Int} (hp : All R h) (r : ∀ h', All R h' → rowsAt h' 2 v (rs.map Ret.enc)) (g : ∀ r ∈ rs, r.good) (e0 : 0 ≤ e) (e1 : e < 1073741824) (hb : rs.length ≤ 100000)
    (hK : ∀ v1 v2 h', All (rowP 1 v1 ((ripes rs e).map encI) :: rowP 2 v2 ((rests rs e).map Ret.enc) :: R) h' → K (.tuple #[v1, v2, i64 0]) h') : T Tryz.prog 103 [v, i64 e] h K := by
  apply S103_T
  unfold S103
  refine T_noneNot hp r g fun h1 hp => ?_
  refine wk ?_
  refine T_epochMay ?_
  rw [decide_eq_true ⟨e0, e1⟩]
  refine wk ?_
  unfold S103_j1
  have hl : lnV v = some (i64 rs.length) := by have := (r _ hp).len; rw [List.length_map] at this; exact this
  refine bnd_of hl ?_
  refine Lfp_fam (ι := Nat × Value × Value) (fun p => [i64 e, p.2.1, p.2.2, v, i64 rs.length, i64 p.1]) (fun p h' => p.1 ≤ rs.length ∧ All (rowP 1 p.2.1 ((ripes (rs.take p.1) e).map encI) :: rowP 2 p.2.2 ((rests (rs.take p.1) e).map Ret.enc) :: R) h') (fun p => rs.length - p.1) ?_ (0, .slice none 0 0, .slice none 0 0) h1 ⟨by simp only; omega, ?_⟩
  rotate_left
  · exact All.emp_cons (P := rowP 1 (.slice none 0 0) []) (All.emp_cons (P := rowP 2 (.slice none 0 0) []) hp (rowP_nil _ _)) (rowP_nil _ _)
  clear hp
  rintro ⟨i, v1, v2⟩ h2 X ⟨hi, hp⟩ again
  simp only at hi hp
  simp only [tup_zero, tup_succ]
  refine wk ?_
  refine ifV_cases (fun c => ?_) fun c => ?_
  · obtain ⟨y, hy⟩ : ∃ y, rs[i]? = some y := ⟨_, List.getElem?_eq_getElem (by omega)⟩
    obtain ⟨g1, g2⟩ := g y (List.mem_of_getElem? hy)
    obtain ⟨p, d1, d2⟩ := (r _ hp.tail.tail).get (i := i) (c := y.enc) (by rw [List.getElem?_map, hy]; rfl) .i64
    refine bnd_of d1 (bnd_of d2 ?_)
    have ts : rs.take (i + 1) = rs.take i ++ [y] := by rw [List.take_add_one, hy]; rfl
    have l1 : (ripes (rs.take i) e).length + (rests (rs.take i) e).length = i := by rw [ripes_rests, List.length_take]; omega
    refine nwst hp (.row 211 [i64 y.slot, i64 y.epoch] 2 true) rfl rfl rfl rfl fun b h3 hp => ?_
    refine wk ?_
    refine ifV_cases (fun c2 => ?_) fun c2 => ?_
    · have hr : isRipe e y = true := decide_eq_true (by omega)
      refine wk ?_
      refine bs0 (size := 1) hp ([y.slot].map encI) rfl rfl (by simp) (encI_good _) fun u h4 hp => ?_
      have r2 := hp.rows
      refine ap0 (hp.up 2) r2 (encI_good _) (by decide) (by simp only [List.length_map, List.length_cons, List.length_nil]; omega) fun v1' h5 hp => ?_
      replace hp := Go.Proofs.YtcpfkkppfgolaaaGreatDoor.hn hp
      refine wk ?_
      refine again (i + 1, v1', v2) _ ⟨by simp only; omega, ?_⟩ (by simp only; omega)
      have hp2 := hn (hp.re 4 [0, 3])
      simp only [ts, ripes_snoc, rests_snoc, hr, if_true, List.append_nil, List.map_append]
      exact hp2
    · have hr : ¬ isRipe e y = true := by unfold isRipe; rw [decide_eq_true_eq]; omega
      refine la0 hp (c := y.enc) (Nat.le_refl 2) rfl ?_
      refine bs0 (size := 2) hp ([y].map Ret.enc) rfl rfl (by simp) (ret_good _) fun u h4 hp => ?_
      have r2 := hp.rows
      refine ap0 (hp.up 3) r2 (ret_good _) (by decide) (by simp only [List.length_map, List.length_cons, List.length_nil]; omega) fun v2' h5 hp => ?_
      replace hp := Go.Proofs.YtcpfkkppfgolaaaGreatDoor.hn hp
      refine wk ?_
      refine again (i + 1, v1, v2') _ ⟨by simp only; omega, ?_⟩ (by simp only; omega)
      have hp2 := hn (hp.re 4 [3, 0])
      simp only [ts, ripes_snoc, rests_snoc, if_neg hr, List.append_nil, List.map_append]
      exact hp2
  · have : i = rs.length := by omega
    subst this
    rw [List.take_length] at hp
    exact hK _ _ _ hp
theorem T_Pause {pol : Bool} {k : Int} (k0 : 0 ≤ k) (k1 : k ≤ 16) (hK : K (.tuple #[i64 (pauseM pol k), i64 0]) h) : T Tryz.prog 182 [.bool pol, i64 k] h K := by
  apply S182_T
  unfold S182
  refine wk ?_
  refine ifV_n (by omega) ?_
  refine wk ?_
  unfold S182_j1
  refine ifV_n (by omega) ?_
  unfold pauseM at hK
  cases pol with
  | false => refine wk ?_; exact hK
  | true =>
    refine wk ?_
    refine ifV_cases (fun c => ?_) fun c => ?_
    · rw [if_pos (.inr c)] at hK; exact hK
    · rw [if_neg (by rintro (h | h); cases h; exact c h)] at hK
      unfold S182_j2
      refine Lfp_fam (ι := Nat) (fun i => [i64 k, i64 ((2 ^ i : Nat) : Int), i64 ((i : Int) + 1)]) (fun i h' => i ≤ 3 ∧ (i : Int) + 1 ≤ k ∧ h' = h) (fun i => 3 - i) ?_ 0 h ⟨by omega, by omega, rfl⟩
      rintro i h1 X ⟨hi, hk, rfl⟩ again
      simp only [tup_zero, tup_succ]
      have fin : (k = i + 1 ∨ i = 3) → bnd (mmV false (i64 ((2 ^ i : Nat) : Int)) [i64 8]) fun v8 => K (.tuple #[v8, i64 0]) h1 := by
        intro q
        have e : mmV false (i64 ((2 ^ i : Nat) : Int)) [i64 8] = some (i64 (min 8 (2 ^ (k.toNat - 1)))) := by
          have hc : i = 0 ∨ i = 1 ∨ i = 2 ∨ i = 3 := by omega
          rcases q with q | q
          · have : k.toNat - 1 = i := by omega
            rw [this]
            rcases hc with rfl | rfl | rfl | rfl <;> rfl
          · subst q
            have : (8 : Int) ≤ 2 ^ (k.toNat - 1) := by
              have all : ∀ n : Fin 16, 3 ≤ n.val → (8 : Int) ≤ 2 ^ n.val := by decide
              exact all ⟨k.toNat - 1, by omega⟩ (by simp only; omega)
            rw [Int.min_eq_left this]; rfl
        exact bnd_of e hK
      refine wk ?_
      refine ifV_cases (fun c2 => ?_) fun c2 => fin (.inl (by omega))
      refine wk ?_
      refine ifV_cases (fun c3 => ?_) fun c3 => fin (.inr ?_)
      · have hi3 : i < 3 := by
          rcases Nat.lt_or_ge i 3 with q | q
          · exact q
          · obtain rfl : i = 3 := by omega
            omega
        have e2 : ((2 ^ i : Nat) : Int) * 2 = ((2 ^ (i + 1) : Nat) : Int) := by rw [Nat.pow_succ]; omega
        have hb : ((2 ^ i : Nat) : Int) ≤ 8 ∧ 0 ≤ ((2 ^ i : Nat) : Int) := by
          have hc : i = 0 ∨ i = 1 ∨ i = 2 := by omega
          rcases hc with rfl | rfl | rfl <;> decide
        refine bnd_of (mul_id (by omega) (by omega)) ?_
        refine wk ?_
        have := again (i + 1) h1 ⟨by omega, by omega, rfl⟩ (by omega)
        rw [← e2] at this
        exact this
      · have hc : i = 0 ∨ i = 1 ∨ i = 2 ∨ i = 3 := by omega
        rcases hc with rfl | rfl | rfl | rfl
        · exact absurd (by decide) c3
        · exact absurd (by decide) c3
        · exact absurd (by decide) c3
        · rfl
end
end Go.Proofs.YtcpfkkppfgolaaaGreatDoor
namespace Go.Proofs.YtcpfkkppfgolaaaGreatDoor
open Go GW Go.Proofs
attribute [local irreducible] bnd ldV stV ifV binV eqI
set_option maxRecDepth 20000
def Lok (L : List Int) : Prop := L.length = 12 ∧ ∀ x ∈ L, 0 ≤ x ∧ x < 4611686018427387904
theorem Lok.at {L : List Int} (o : Lok L) (i : Nat) : 0 ≤ L.getD i 0 ∧ L.getD i 0 < 4611686018427387904 := by
  rw [List.getD_eq_getElem?_getD]
  cases e : L[i]? with
  | none => exact ⟨by decide, by decide⟩
  | some x => exact o.2 x (List.mem_of_getElem? e)
def lvP (n : Nat) (lb : Nat) : Value := .pointer (some ⟨lb, n, none⟩)
section
variable {a b tb lb sz : Nat} {U : TypeId} {pre post : List Value} {pick : Int} {A : Ar} {L : List Int} {R : List Part} {h : GH} {K : Value → GH → Prop} {x : Th}
theorem lv_ld {s : Nat} (hp : All (pts lb (lvRow U sz pre L post) :: R) h) (hs : s < L.length) : ldV 1 false (.pointer (some ⟨lb, pre.length + s * 1, none⟩)) h = some (i64 (L.getD s 0)) := by
  rw [ldV_cell hp.pt0, List.getElem?_append_right (by omega), Nat.add_sub_cancel_left, Nat.mul_one, List.getElem?_append_left (by rw [List.length_map]; exact hs), List.getElem?_map, List.getD_eq_getElem?_getD, List.getElem?_eq_getElem hs]
  rfl
theorem lv_st {s : Nat} {y : Int} {K : GH → Prop} (hp : All (pts lb (lvRow U sz pre L post) :: R) h) (hs : s < L.length) (k : ∀ h', All (pts lb (lvRow U sz pre (L.set s y) post) :: R) h' → K h') : bnd (stV 1 (.pointer (some ⟨lb, pre.length + s * 1, none⟩)) (i64 y) h) K := by
  refine st0 hp (lvRow U sz pre (L.set s y) post) rfl (by simp only [List.length_append, List.length_map]; omega) rfl ?_ k
  show GObj.row _ ((pre ++ (L.map i64 ++ post)).set (pre.length + s * 1) (i64 y)) _ _ = _
  rw [Nat.mul_one, List.set_append_right _ _ (by omega), Nat.add_sub_cancel_left, List.set_append_left _ _ (by rw [List.length_map]; exact hs), ← List.map_set]
  rfl
def tv1 (v : Value) (cs : List (List Value)) (ts : List (List Op)) : Part := fun h => rowsAt h 1 v cs ∧ All2 (fun c t => ∃ w, c = [w] ∧ rowsAt h 4 w (t.map Op.enc)) cs ts
theorem tvP_open {C : Prop} {v : Value} {ts : List (List Op)} (hp : All (tvP v ts :: R) h) (k : ∀ cs, All (tv1 v cs ts :: R) h → C) : C := by
  obtain ⟨cs, hp⟩ := All.ex hp
  exact k cs hp
theorem tvP_shut {v : Value} {cs : List (List Value)} {ts : List (List Op)} (hp : All (tv1 v cs ts :: R) h) : All (tvP v ts :: R) h := hp.head fun _ z => ⟨cs, z⟩
theorem tv1.mono {v : Value} {cs : List (List Value)} {ts : List (List Op)} : ∀ h h', HLe h h' → tv1 v cs ts h → tv1 v cs ts h' := fun _ _ l ⟨p, q⟩ => ⟨p.le l, q.mono fun _ _ ⟨w, e, r⟩ => ⟨w, e, r.le l⟩⟩
theorem evCs_last {es : List Event} {ws : List Value} (hl : ws.length = es.length) (hn : es ≠ []) : ∃ e w, es.getLast? = some e ∧ es[es.length - 1]? = some e ∧ ws[es.length - 1]? = some w ∧ (evCs es ws)[es.length - 1]? = some (e.cells w) := by
  have h0 := List.length_pos_iff.2 hn
  obtain ⟨e, he⟩ : ∃ e, es[es.length - 1]? = some e := ⟨_, List.getElem?_eq_getElem (by omega)⟩
  obtain ⟨w, hw⟩ : ∃ w, ws[es.length - 1]? = some w := ⟨_, List.getElem?_eq_getElem (by omega)⟩
  exact ⟨e, w, by rw [List.getLast?_eq_getElem?]; exact he, he, hw, evCs_get he hw⟩
theorem T_event {v : ThV} {n : Nat} {p : Value} (hp : All (pts b (thRow x v) :: R) h) (hl : lnV v.ev = some (i64 n)) (hn : 0 < n) (hm : n ≤ 9223372036854775807) (hi : isV 8 v.ev (i64 ((n - 1 : Nat) : Int)) = some p) (hK : K p h) : T Tryz.prog 88 [ptr b] h K := by
  apply S88_T
  unfold S88
  unfold thRow at hp
  refine wk ?_
  refine bnd_of hl ?_
  refine wk ?_
  rw [show (n : Int) - 1 = ((n - 1 : Nat) : Int) by omega]
  exact bnd_of hi hK
theorem T_with {s : Int} (hp : All (arP 142 a A :: pts tb (trRow b a (lvP pre.length lb) pick) :: pts lb (lvRow U sz pre L post) :: thP b x :: R) h) (oi : ∀ (i : Nat) e, x.evs[i]? = some e → e.index = i) (oe : x.evs.length ≤ x.txns.length) (ot : thrMay x.txns = true) (live : x.evs ≠ []) (s0 : 0 ≤ s) (s1 : s < 12) (lo : Lok L)
    (hK : ∀ h', All (arP 142 a A :: pts tb (trRow b a (lvP pre.length lb) pick) :: pts lb (lvRow U sz pre (lived s L) post) :: thP b (x.with_ s L) :: R) h' → K (.tuple #[]) h') : T Tryz.prog 131 [ptr tb, i64 s] h K := by
  apply S131_T
  unfold S131
  obtain ⟨i, rfl⟩ := Int.eq_ofNat_of_zero_le s0
  have hi : i < 12 := by omega
  have hL : i < L.length := by rw [lo.1]; exact hi
  have yr := lo.at i
  refine tho hp fun v hp => ?_
  unfold thRow trRow lvP at hp
  refine wk ?_
  refine bnd_of (iaV_at hi .i64) ?_
  refine bnd_of (lv_ld (hn (hp.up 3)) hL) ?_
  refine wk ?_
  refine bnd_of (iaV_at hi .i64) ?_
  replace hp := hp.up 3
  replace hp := Go.Proofs.YtcpfkkppfgolaaaGreatDoor.hn hp
  refine lv_st (y := L.getD i 0 + 1) hp hL fun h1 hp => ?_
  replace hp := hp.re 4 [1, 2, 3, 0]
  replace hp := Go.Proofs.YtcpfkkppfgolaaaGreatDoor.hn hp
  refine wk ?_
  refine st0 hp (thRow { x with slot := (i : Int) } v) rfl (Nat.le_of_ble_eq_true rfl) rfl rfl fun h2 hp => ?_
  unfold thRow at hp
  refine wk ?_
  refine bnd_of (iaV_at hi .i64) ?_
  have hL2 : i < (L.set i (L.getD i 0 + 1)).length := by rw [List.length_set]; exact hL
  have eg : (L.set i (L.getD i 0 + 1)).getD i 0 = L.getD i 0 + 1 := by
    rw [List.getD_eq_getElem?_getD, List.getElem?_set_self hL]; rfl
  have lvl : ∀ {h'} {P1 P2 P3 : Part} {R' : List Part}, All (P1 :: P2 :: P3 :: pts lb (lvRow U sz pre (L.set i (L.getD i 0 + 1)) post) :: R') h' → ldV 1 false (.pointer (some ⟨lb, pre.length + i * 1, none⟩)) h' = some (i64 (L.getD i 0 + 1)) := by
    intro h' P1 P2 P3 R' hp
    have := lv_ld (hn (hp.up 3)) hL2
    rw [eg] at this; exact this
  refine bnd_of (lvl hp) ?_
  refine wk ?_
  -- the event
  replace hp := hp.re 6 [5, 0, 1, 2, 3, 4]
  replace hp := Go.Proofs.YtcpfkkppfgolaaaGreatDoor.hn hp
  refine evsP_open hp fun ws hl hp => ?_
  obtain ⟨e, w, g1, g2, g3, g4⟩ := evCs_last hl live
  obtain ⟨eb, i1, i2, i3, i4⟩ := All.elt hp g4 .i64
  have hlen : lnV v.ev = some (i64 x.evs.length) := by have := All.len hp; rw [evCs_len hl] at this; exact this
  have ev8 := oe
  have tx := thrMay_spec ot
  have l0 := List.length_pos_iff.2 live
  have hp2 := hn (hp.re 3 [2, 0, 1])
  refine T_event (x := { x with slot := (i : Int) }) hp2 hlen l0 (by omega) i1 ?_
  have hp := hn (hp2.re 7 [0, 3, 4, 5, 1, 2, 6])
  clear hp2
  unfold thRow at hp
  refine ⟨?_, ?_, ?_, ?_, ?_, ?_⟩
  · exact wq0_ hp rfl
  · exact lvl hp
  · exact wq1_ hp rfl
  · exact wq0_ hp rfl
  · exact wq0_ hp rfl
  refine wk ?_
  have ex := oi _ e g2
  have e1 := i2 1 1 (i64 e.index) rfl
  rw [ex] at e1
  refine bnd_of e1 ?_
  -- its transaction
  replace hp := hp.re 7 [6, 0, 1, 2, 3, 4, 5]
  replace hp := Go.Proofs.YtcpfkkppfgolaaaGreatDoor.hn hp
  refine tvP_open hp fun cs hp => ?_
  have hops : x.ops = x.txns.getD (x.evs.length - 1) [] := by
    unfold Th.ops; rw [g1]; simp only; rw [ex]; rfl
  obtain ⟨t, ht⟩ : ∃ t, x.txns[x.evs.length - 1]? = some t := ⟨_, List.getElem?_eq_getElem (by omega)⟩
  have et : x.ops = t := by rw [hops, List.getD_eq_getElem?_getD, ht]; rfl
  have tvf := hp.mono1 tv1.mono
  obtain ⟨c, hc, w', rfl, hw⟩ := tvf.2.get ht
  obtain ⟨b0, o0, j1, j2, _⟩ := tvf.1.fld hc .i64
  refine bnd_of j1 (bnd_of rfl (bnd_of (j2 0 w' rfl) ?_))
  have hrow : ∀ {h'} {R' : List Part}, All (tv1 v.tv cs x.txns :: R') h' → rowsAt h' 4 w' (x.ops.map Op.enc) := by
    intro h' R' hp
    obtain ⟨c2, hc2, w2, e2, r2⟩ := (hp.mono1 tv1.mono).2.get ht
    rw [hc] at hc2
    cases hc2
    cases e2
    rw [et]; exact r2
  have fin : ∀ (ap : Value) (z : Option At) h3, z = (if At.may x.id x.seq i (L.getD i 0 + 1) x.ops then some (.new x.id x.seq i (L.getD i 0 + 1) x.ops) else none) → All (opP attP ap z :: tv1 v.tv cs x.txns :: pts b (thRow { x with slot := (i : Int) } v) :: pts tb (trRow b a (lvP pre.length lb) pick) :: arP 142 a A :: pts lb (lvRow U sz pre (L.set i (L.getD i 0 + 1)) post) :: rowP 8 v.ev (evCs x.evs ws) :: ansP ws x.evs :: rowP 1 v.cv (x.cache.map encI) :: rowP 2 v.lv (x.limbo.map Ret.enc) :: rdP v.rv x.ripe :: opP entP v.ep x.ent :: opP pushP v.up x.push :: opP popP v.pp x.pop :: opP attP v.ap x.att :: opP advP v.dp x.adv :: R) h3 →
      bnd (ncV (ptr b)) fun v44 => bnd (faV 18 v44) fun v45 => bnd (stV 1 v45 ap h3) fun h46 => bnd (ncV (ptr b)) fun v47 => bnd (faV 6 v47) fun v48 => bnd (stV 1 v48 (.func (.func 132) #[] #[]) h46) fun h49 => K (.tuple #[]) h49 := by
    intro ap z h3 ez hp
    replace hp := hp.re 15 [2, 3, 4, 5, 1, 6, 7, 8, 9, 10, 11, 12, 13, 0]
    replace hp := Go.Proofs.YtcpfkkppfgolaaaGreatDoor.hn hp
    have hp : All (pts b (thRow { x with slot := (i : Int) } v) :: pts tb (trRow b a (lvP pre.length lb) pick) :: arP 142 a A :: pts lb (lvRow U sz pre (L.set i (L.getD i 0 + 1)) post) :: tv1 v.tv cs x.txns :: rowP 8 v.ev (evCs x.evs ws) :: ansP ws x.evs :: rowP 1 v.cv (x.cache.map encI) :: rowP 2 v.lv (x.limbo.map Ret.enc) :: rdP v.rv x.ripe :: opP entP v.ep x.ent :: opP pushP v.up x.push :: opP popP v.pp x.pop :: opP attP ap z :: opP advP v.dp x.adv :: R) h3 := hp
    unfold thRow at hp
    obtain ⟨q, rfl⟩ : ∃ q, ap = .pointer q := by
      have q := hn (hp.up 13)
      cases z with
      | none => exact ⟨none, opP_none q⟩
      | some y => obtain ⟨_, e, _⟩ := opP_some q; exact ⟨_, e⟩
    refine wk ?_
    refine st0 hp (thRow { x with slot := (i : Int) } { v with ap := .pointer q }) rfl (Nat.le_of_ble_eq_true rfl) rfl rfl fun h4 hp => ?_
    unfold thRow at hp
    refine wk ?_
    refine st0 hp (thRow { x with slot := (i : Int), next := some .tri } { v with ap := .pointer q }) rfl (Nat.le_of_ble_eq_true rfl) rfl rfl fun h5 hp => ?_
    replace hp := hp.re 7 [5, 6, 0, 1, 2, 3, 4]
    replace hp := Go.Proofs.YtcpfkkppfgolaaaGreatDoor.hn hp
    have hp := evsP_shut hl hp
    replace hp := hp.re 6 [5, 0, 1, 2, 3, 4]
    replace hp := Go.Proofs.YtcpfkkppfgolaaaGreatDoor.hn hp
    have hp := tvP_shut hp
    replace hp := hp.re 6 [2, 3, 4, 5, 0, 1]
    replace hp := Go.Proofs.YtcpfkkppfgolaaaGreatDoor.hn hp
    have hp := ths (x := x.with_ i L) (v := { v with ap := .pointer q }) (P1 := arP 142 a A) (P2 := pts tb (trRow b a (lvP pre.length lb) pick)) (P3 := pts lb (lvRow U sz pre (L.set i (L.getD i 0 + 1)) post)) (b := b) (by
      unfold Th.with_
      simp only [Int.toNat_natCast]
      rw [← ez]
      exact hp)
    exact hK _ hp
  refine T_atNew (ops := x.ops) hp (fun h' hp => hrow hp) (fun nm h3 hp => ?_) fun m tb' h3 hp => ?_
  · refine ex20 (ex21 ?_)
    exact fin _ none _ (by rw [if_neg nm]) (opP_no hp)
  · refine ex20 (ex21 ?_)
    exact fin _ (some _) _ (by rw [if_pos m]) (opP_mk hp)
end
end Go.Proofs.YtcpfkkppfgolaaaGreatDoor
namespace Go.Proofs.YtcpfkkppfgolaaaGreatDoor
open Go GW Go.Proofs
attribute [local irreducible] bnd ldV stV ifV binV eqI
set_option maxRecDepth 20000
def Th.taks2 (x : Th) (A : Ar) (L : List Int) : (Th × Int × Ar) × List Int :=
  let o := (x.pop.getD .new).step A
  if o.1.l.over = false ∨ o.2.1 ≠ 0 then (({ x with pop := some o.1, next := some .tak }, o.2.1, o.2.2), L) else
  if o.1.slot = -1 then (({ x with pop := none, end_ := 1, next := some .lea }, 0, o.2.2), L) else
  ((({ x with pop := none } : Th).with_ o.1.slot L, 0, o.2.2), lived o.1.slot L)
theorem taks_1 {x : Th} {A : Ar} {L : List Int} {s : Int} (h1 : x.pop = none) (h2 : x.cache.getLast? = some s) : x.taks A L = ((({ x with cache := x.cache.dropLast } : Th).with_ s L).tris A, lived s L) := by
  unfold Th.taks; rw [h1, h2]
theorem taks_2 {x : Th} {A : Ar} {L : List Int} (h : x.pop = none → x.cache = []) : x.taks A L = x.taks2 A L := by
  unfold Th.taks Th.taks2
  cases hp : x.pop with
  | some p => rfl
  | none => rw [h hp]; rfl
section
variable {a b tb lb sz : Nat} {U : TypeId} {pre post : List Value} {pick : Int} {A : Ar} {L : List Int} {R : List Part} {h : GH} {K : Value → GH → Prop} {x : Th}
theorem All.isSlice {size : Nat} {v : Value} {cs : List (List Value)} {R : List Part} {h : GH} (hp : All (rowP size v cs :: R) h) : ∃ ad ln cap, v = .slice ad ln cap := by
  obtain ⟨ad, cap, junk, e, _⟩ := hp.row
  exact ⟨_, _, _, e⟩
theorem T_takes (hp : All (arP 142 a A :: pts tb (trRow b a (lvP pre.length lb) pick) :: pts lb (lvRow U sz pre L post) :: thP b x :: R) h) (o : x.ok) (live : x.evs ≠ []) (lo : Lok L)
    (hK : ∀ h', All (arP 142 a (x.taks A L).1.2.2 :: pts tb (trRow b a (lvP pre.length lb) pick) :: pts lb (lvRow U sz pre (x.taks A L).2 post) :: thP b (x.taks A L).1.1 :: R) h' → K (i64 (x.taks A L).1.2.1) h') : T Tryz.prog 117 [ptr tb] h K := by
  apply S117_T
  unfold S117
  have hc := o.cl
  have opop := o.pop
  -- behind the choice: a free slot
  have j3 : ∀ (x1 : Th) h', x1 = { x with pop := some (x.pop.getD .new) } → (x.pop = none → x.cache = []) → All (arP 142 a A :: pts tb (trRow b a (lvP pre.length lb) pick) :: pts lb (lvRow U sz pre L post) :: thP b x1 :: R) h' → S117_j3 (ptr tb) (ptr b) h' K := by
    intro x1 h' ex1 hcn hp
    subst ex1
    rw [taks_2 hcn] at hK
    unfold Th.taks2 at hK
    have po : (x.pop.getD .new).ok := by
      cases hq : x.pop with
      | none => exact Pop.new_ok
      | some q => exact opop q hq
    have ps := Pop.step_ok po (arP.at hp).2
    generalize x.pop.getD .new = q at hp po ps hK
    unfold S117_j3
    refine tho hp fun v hp => ?_
    unfold thRow trRow at hp
    refine wk ?_
    refine st0 hp (thRow { x with next := some .tak } v) rfl (Nat.le_of_ble_eq_true rfl) rfl rfl fun h1 hp => ?_
    unfold thRow at hp
    refine wk ?_
    obtain ⟨qb, e, hp1⟩ := opP_some (hn (hp.up 11))
    replace hp := hp1
    rw [e] at hp ⊢
    clear hp1
    refine wk ?_
    replace hp := hp.re 4 [3, 0, 1, 2]
    replace hp := Go.Proofs.YtcpfkkppfgolaaaGreatDoor.hn hp
    refine T_popStep hp po fun h2 hp => ?_
    dsimp only at hK
    generalize q.step A = r at hp hK ps
    obtain ⟨q', code, B⟩ := r
    dsimp only at hp hK ps ⊢
    refine wk ?_
    have back : ∀ {h'} {y : Th} {v' : ThV} {c : Option Pop}, All (arP 142 a B :: opP popP v'.pp c :: pts b (thRow y v') :: pts tb (trRow b a (lvP pre.length lb) pick) :: pts lb (lvRow U sz pre L post) :: tvP v'.tv x.txns :: evsP v'.ev x.evs :: rowP 1 v'.cv (x.cache.map encI) :: rowP 2 v'.lv (x.limbo.map Ret.enc) :: rdP v'.rv x.ripe :: opP entP v'.ep x.ent :: opP pushP v'.up x.push :: opP attP v'.ap x.att :: opP advP v'.dp x.adv :: R) h' →
        y.txns = x.txns → y.evs = x.evs → y.cache = x.cache → y.limbo = x.limbo → y.ripe = x.ripe → y.ent = x.ent → y.push = x.push → y.pop = c → y.att = x.att → y.adv = x.adv →
        All (arP 142 a B :: pts tb (trRow b a (lvP pre.length lb) pick) :: pts lb (lvRow U sz pre L post) :: thP b y :: R) h' := by
      intro h' y v' c hp e1 e2 e3 e4 e5 e6 e7 e8 e9 e10
      refine ths (v := v') ?_
      rw [e1, e2, e3, e4, e5, e6, e7, e8, e9, e10]
      exact hn (hp.re 14 [2, 3, 0, 4, 5, 6, 7, 8, 9, 10, 11, 1, 12, 13])
    cases hov : q'.l.over with
    | false =>
      rw [if_pos (.inl hov)] at hK
      refine wk ?_
      refine hK _ (back (v' := { v with pp := ptr qb }) (c := some q') ?_ rfl rfl rfl rfl rfl rfl rfl rfl rfl rfl)
      have := opP_mk (P := popP) (hn (hp.up 1))
      exact hn (this.re 2 [1, 0])
    | true =>
      refine wk ?_
      refine ifN_cases (fun c => ?_) fun c => ?_
      · rw [if_pos (.inr c)] at hK
        refine hK _ (back (v' := { v with pp := ptr qb }) (c := some q') ?_ rfl rfl rfl rfl rfl rfl rfl rfl rfl rfl)
        have := opP_mk (P := popP) (hn (hp.up 1))
        exact hn (this.re 2 [1, 0])
      · rw [if_neg (by rw [hov]; simp; exact c)] at hK
        unfold S117_j4
        replace hp := hp.re 4 [2, 3, 1, 0]
        replace hp := Go.Proofs.YtcpfkkppfgolaaaGreatDoor.hn hp
        refine wk ?_
        refine T_popSlot (hn (hp.up 2)) ?_
        refine wk ?_
        refine st0 hp (thRow { x with next := some .tak } { v with pp := .pointer none }) rfl (Nat.le_of_ble_eq_true rfl) rfl rfl fun h3 hp => ?_
        refine bnd_of (eqI_int _ _ _) ?_
        refine ifV_cases (fun c2 => ?_) fun c2 => ?_
        · rw [if_pos c2] at hK
          unfold thRow at hp
          refine wk ?_
          refine st0 hp (thRow { x with next := some .tak, end_ := 1 } { v with pp := .pointer none }) rfl (Nat.le_of_ble_eq_true rfl) rfl rfl fun h4 hp => ?_
          unfold thRow at hp
          refine wk ?_
          refine st0 hp (thRow { x with next := some .lea, end_ := 1 } { v with pp := .pointer none }) rfl (Nat.le_of_ble_eq_true rfl) rfl rfl fun h5 hp => ?_
          refine hK _ (back (y := { x with pop := none, end_ := 1, next := some .lea }) (v' := { v with pp := .pointer none }) (c := none) ?_ rfl rfl rfl rfl rfl rfl rfl rfl rfl rfl)
          have := opP_no (P := popP) (hn (hp.re 4 [3, 0, 1]))
          exact hn (this.re 2 [1, 0])
        · rw [if_neg c2] at hK
          have hp2 := opP_no (P := popP) (hn (hp.re 4 [3, 0, 1]))
          have hp3 := back (y := { x with pop := none, next := some .tak }) (v' := { v with pp := .pointer none }) (c := none) (hn (hp2.re 2 [1, 0])) rfl rfl rfl rfl rfl rfl rfl rfl rfl rfl
          refine T_with hp3 o.idx o.evs o.txns live (by have := ps.1.s0; omega) ps.1.s1 lo fun h4 hp => ?_
          refine wk ?_
          exact hK _ hp
  have j2 : ∀ h', (x.pop = none → x.cache = []) → All (arP 142 a A :: pts tb (trRow b a (lvP pre.length lb) pick) :: pts lb (lvRow U sz pre L post) :: thP b x :: R) h' → S117_j2 (ptr tb) (ptr b) h' K := by
    intro h' hcn hp
    unfold S117_j2
    have hp0 := hp
    refine tho hp fun v hp => ?_
    unfold thRow at hp
    refine wk ?_
    cases hq : x.pop with
    | none =>
      rw [hq] at hp
      have e := opP_none (hn (hp.up 11))
      rw [e]
      refine wk ?_
      refine T_NewPop (hn (hp.re 14 [0, 1, 2, 3, 4, 5, 6, 7, 8, 9, 10, 12, 13])) fun qb h1 hp => ?_
      replace hp := hp.re 3 [1, 2, 0]
      replace hp := Go.Proofs.YtcpfkkppfgolaaaGreatDoor.hn hp
      refine wk ?_
      refine st0 hp (thRow x { v with pp := ptr qb }) rfl (Nat.le_of_ble_eq_true rfl) rfl rfl fun h2 hp => ?_
      refine j3 { x with pop := some (x.pop.getD .new) } _ rfl hcn (ths (v := { v with pp := ptr qb }) ?_)
      rw [hq]
      have := opP_mk (P := popP) (y := Pop.new) (hn (hp.up 2))
      exact hn (this.re 14 [1, 2, 3, 4, 5, 6, 7, 8, 9, 10, 11, 0, 12, 13])
    | some q =>
      have hq2 := hq
      rw [hq] at hp
      obtain ⟨qb, e, _⟩ := opP_some (hn (hp.up 11))
      rw [e]
      refine wk ?_
      have ex : ({ x with pop := some (x.pop.getD .new) } : Th) = x := by
        rw [hq]; show ({ x with pop := some q } : Th) = x; rw [← hq]
      exact j3 _ _ rfl hcn (by rw [ex]; exact hp0)
  have hp0 := hp
  refine tho hp fun v hp => ?_
  unfold thRow trRow at hp
  refine wk ?_
  have hlen : lnV v.cv = some (i64 x.cache.length) := by have := All.len (hn (hp.up 6)); rw [List.length_map] at this; exact this
  refine bnd_of hlen ?_
  refine wk ?_
  cases hq : x.pop with
  | some q =>
    rw [hq] at hp
    obtain ⟨qb, e, _⟩ := opP_some (hn (hp.up 11))
    rw [e]
    refine wk ?_
    unfold S117_j1
    refine wk ?_
    exact j2 _ (fun e => by rw [hq] at e; cases e) hp0
  | none =>
    have e := opP_none (P := popP) (hn ((show All _ h from by rw [hq] at hp; exact hp).up 11))
    rw [e]
    refine wk ?_
    unfold S117_j1
    refine ifV_cases (fun c => ?_) fun c => ?_
    · obtain ⟨s, hs⟩ : ∃ s, x.cache[x.cache.length - 1]? = some s := ⟨_, List.getElem?_eq_getElem (by omega)⟩
      have hlast : x.cache.getLast? = some s := by rw [List.getLast?_eq_getElem?]; exact hs
      have sr := o.ca s (List.mem_of_getElem? hs)
      rw [taks_1 hq hlast] at hK
      refine wk ?_
      rw [show (x.cache.length : Int) - 1 = ((x.cache.length - 1 : Nat) : Int) by omega]
      obtain ⟨p, d1, d2⟩ := (All.rows (hn (hp.up 6))).get1 (i := x.cache.length - 1) (x := i64 s) (by rw [List.getElem?_map, hs]; rfl) .i64
      refine bnd_of d1 (bnd_of d2 ?_)
      refine wk ?_
      replace hp := hp.up 6
      replace hp := Go.Proofs.YtcpfkkppfgolaaaGreatDoor.hn hp
      obtain ⟨v', d3, hp⟩ := All.cut hp (n := x.cache.length - 1) (by rw [List.length_map]; omega) .i64
      refine bnd_of d3 ?_
      replace hp := hp.re 2 [1, 0]
      replace hp := Go.Proofs.YtcpfkkppfgolaaaGreatDoor.hn hp
      refine wk ?_
      obtain ⟨ad, ln, cap, rfl⟩ := All.isSlice (hn (hp.up 1))
      refine st0 hp (thRow { x with cache := x.cache.dropLast } { v with cv := .slice ad ln cap }) rfl (Nat.le_of_ble_eq_true rfl) rfl rfl fun h1 hp => ?_
      have hp2 : All (arP 142 a A :: pts tb (trRow b a (lvP pre.length lb) pick) :: pts lb (lvRow U sz pre L post) :: thP b { x with cache := x.cache.dropLast } :: R) h1 := by
        refine ths (v := { v with cv := .slice ad ln cap }) ?_
        have e : (x.cache.map encI).take (x.cache.length - 1) = x.cache.dropLast.map encI := by rw [← List.map_take, List.dropLast_eq_take]
        rw [e] at hp
        exact hn (hp.re 7 [0, 2, 3, 4, 5, 6, 1])
      refine T_with hp2 o.idx o.evs o.txns live sr.1 sr.2 lo fun h2 hp => ?_
      refine T_tries hp (fun n hn => ?_) fun h3 hp => ?_
      · simp only [Th.with_] at hn
        split at hn
        · rename_i m; cases hn; exact At.new_ok m
        · cases hn
      · exact hK _ hp
    · refine j2 _ (fun _ => ?_) hp0
      exact List.length_eq_zero_iff.1 (by omega)
end
end Go.Proofs.YtcpfkkppfgolaaaGreatDoor
namespace Go.Proofs.YtcpfkkppfgolaaaGreatDoor
open Go GW Go.Proofs
attribute [local irreducible] bnd ldV stV ifV binV eqI
set_option maxRecDepth 20000
def Th.mv (x : Th) (i : Nat) : Th := { x with cache := x.cache ++ x.ripe.take i, ripe := x.ripe.drop i }
theorem Th.mv_zero (x : Th) : x.mv 0 = x := by
  unfold Th.mv; simp
theorem Th.mv_cached {x : Th} {i : Nat} (h0 : x.push = none) (hi : i ≤ x.ripe.length) (hc : i + x.cache.length ≤ 2) (h : i = x.ripe.length ∨ 2 ≤ i + x.cache.length) : x.mv i = x.cached := by
  unfold Th.mv Th.cached
  rw [h0]
  simp only
  rcases h with h | h
  · have e1 : x.ripe.take i = x.ripe.take (2 - x.cache.length) := by rw [List.take_of_length_le (by omega), List.take_of_length_le (by omega)]
    have e2 : x.ripe.drop i = x.ripe.drop (2 - x.cache.length) := by rw [List.drop_of_length_le (by omega), List.drop_of_length_le (by omega)]
    rw [e1, e2]
  · have : i = 2 - x.cache.length := by omega
    rw [this]
theorem Th.cached_some {x : Th} (h : x.push ≠ none) : x.cached = x := by
  unfold Th.cached
  split
  · rename_i e; exact absurd e h
  · rfl
theorem All.isSliceR {v : Value} {us : List Int} {R : List Part} {h : GH} (hp : All (rdP v us :: R) h) : ∃ ad ln cap, v = .slice ad ln cap := by
  obtain ⟨ad, n, cap, e, _⟩ := hp.rd
  exact ⟨_, _, _, e⟩
section
variable {a b tb lb sz : Nat} {U : TypeId} {pre post : List Value} {pick : Int} {A : Ar} {L : List Int} {R : List Part} {h : GH} {K : Value → GH → Prop} {x : Th}
theorem T_frees (hp : All (arP 142 a A :: pts tb (trRow b a (lvP pre.length lb) pick) :: pts lb (lvRow U sz pre L post) :: thP b x :: R) h) (o : x.ok) (hx : x.next = some .fre) (live : x.evs ≠ []) (lo : Lok L)
    (hK : ∀ h', All (arP 142 a (x.fres A L).1.2.2 :: pts tb (trRow b a (lvP pre.length lb) pick) :: pts lb (lvRow U sz pre (x.fres A L).2 post) :: thP b (x.fres A L).1.1 :: R) h' → K (i64 (x.fres A L).1.2.1) h') : T Tryz.prog 105 [ptr tb] h K := by
  apply S105_T
  unfold S105
  have hc := o.cl
  have oc := Th.cached_ok o
  have lc : x.cached.evs ≠ [] := by unfold Th.cached; split <;> exact live
  -- behind the loop
  have fin : ∀ s4 again h', All (arP 142 a A :: pts tb (trRow b a (lvP pre.length lb) pick) :: pts lb (lvRow U sz pre L post) :: thP b x.cached :: R) h' → S105_j2 s4 (ptr tb) (ptr b) h' K again := by
    intro s4 again h' hp
    unfold Th.fres at hK
    simp only at hK
    generalize x.cached = y at hp oc lc hK
    unfold S105_j2
    have hp0 := hp
    refine tho hp fun v hp => ?_
    unfold thRow at hp
    refine wk ?_
    have hlen : lnV v.rv = some (i64 y.ripe.length) := by have := (All.rd (hn (hp.up 8))).len; rw [List.length_map] at this; exact this
    refine bnd_of hlen ?_
    refine bnd_of (eqI_int _ _ _) ?_
    cases hr : y.ripe with
    | nil =>
      rw [hr] at hK
      refine wk ?_
      refine T_takes hp0 oc lc lo fun h1 hp => ?_
      exact hK _ hp
    | cons s r =>
      have hm := oc.ri s (by rw [hr]; simp)
      rw [hr] at hK
      dsimp only at hK
      have po : (y.push.getD (.new s)).ok := by
        cases hq : y.push with
        | none => exact Push.new_ok hm.1 hm.2
        | some q => exact oc.push q hq
      refine ifV_n (by simp only [List.length_cons]; omega) ?_
      have j3 : ∀ h', All (arP 142 a A :: pts tb (trRow b a (lvP pre.length lb) pick) :: pts lb (lvRow U sz pre L post) :: thP b { y with push := some (y.push.getD (.new s)) } :: R) h' → S105_j3 s4 (ptr tb) (ptr b) h' K again := by
        intro h' hp
        generalize y.push.getD (.new s) = q at hp po hK
        unfold S105_j3
        refine tho hp fun v hp => ?_
        unfold thRow trRow at hp
        refine wk ?_
        obtain ⟨qb, e, hp1⟩ := opP_some (hn (hp.up 10))
        replace hp := hp1
        rw [e] at hp ⊢
        clear hp1
        replace hp := hp.re 4 [1, 2, 3, 0]
        replace hp := Go.Proofs.YtcpfkkppfgolaaaGreatDoor.hn hp
        refine wk ?_
        replace hp := hp.re 4 [2, 3, 0, 1]
        replace hp := Go.Proofs.YtcpfkkppfgolaaaGreatDoor.hn hp
        refine T_pushStep hp po fun h2 hp => ?_
        generalize q.step A = z at hp hK
        obtain ⟨q', code, B⟩ := z
        dsimp only at hp hK ⊢
        refine wk ?_
        have back : ∀ {h'} {w : Th} {v' : ThV} {c : Option Push} {ri : List Int}, All (arP 142 a B :: opP pushP v'.up c :: pts b (thRow w v') :: pts tb (trRow b a (lvP pre.length lb) pick) :: pts lb (lvRow U sz pre L post) :: tvP v'.tv y.txns :: evsP v'.ev y.evs :: rowP 1 v'.cv (y.cache.map encI) :: rowP 2 v'.lv (y.limbo.map Ret.enc) :: rdP v'.rv ri :: opP entP v'.ep y.ent :: opP popP v'.pp y.pop :: opP attP v'.ap y.att :: opP advP v'.dp y.adv :: R) h' →
            w.txns = y.txns → w.evs = y.evs → w.cache = y.cache → w.limbo = y.limbo → w.ripe = ri → w.ent = y.ent → w.push = c → w.pop = y.pop → w.att = y.att → w.adv = y.adv →
            All (arP 142 a B :: pts tb (trRow b a (lvP pre.length lb) pick) :: pts lb (lvRow U sz pre L post) :: thP b w :: R) h' := by
          intro h' w v' c ri hp e1 e2 e3 e4 e5 e6 e7 e8 e9 e10
          refine ths (v := v') ?_
          rw [e1, e2, e3, e4, e5, e6, e7, e8, e9, e10]
          exact hn (hp.re 14 [2, 3, 0, 4, 5, 6, 7, 8, 9, 10, 1, 11, 12, 13])
        unfold S105_j4
        cases hov : q'.l.over with
        | false =>
          rw [if_neg (by rw [hov]; simp)] at hK
          refine wk ?_
          refine hK _ (back (v' := { v with up := ptr qb }) (c := some q') (ri := y.ripe) ?_ rfl rfl rfl rfl hr.symm rfl rfl rfl rfl rfl)
          have := opP_mk (P := pushP) (hn (hp.up 1))
          exact hn (this.re 5 [1, 0, 2, 3, 4])
        | true =>
          refine wk ?_
          refine ifV_cases (fun c => ?_) fun c => ?_
          · rw [if_pos ⟨hov, c⟩] at hK
            subst c
            replace hp := hp.re 4 [2, 3, 1, 0]
            replace hp := Go.Proofs.YtcpfkkppfgolaaaGreatDoor.hn hp
            refine wk ?_
            -- its tail
            rw [hr] at hp
            obtain ⟨v', d1, hp1⟩ := All.rdTl (hn (hp.up 9))
            refine bnd_of d1 ?_
            replace hp := hn (hp1.re 3 [1, 2, 0])
            clear hp1
            refine wk ?_
            refine st0 hp (thRow { y with push := none } { v with up := .pointer none }) rfl (Nat.le_of_ble_eq_true rfl) rfl rfl fun h3 hp => ?_
            obtain ⟨ad, ln, cap, rfl⟩ := All.isSliceR (hn (hp.up 2))
            unfold thRow at hp
            refine wk ?_
            refine st0 hp (thRow { y with push := none, ripe := r } { v with up := .pointer none, rv := .slice ad ln cap }) rfl (Nat.le_of_ble_eq_true rfl) rfl rfl fun h4 hp => ?_
            refine hK _ (back (w := { y with push := none, ripe := r }) (v' := { v with up := .pointer none, rv := .slice ad ln cap }) (c := none) (ri := r) ?_ rfl rfl rfl rfl rfl rfl rfl rfl rfl rfl)
            have z2 : All (pts b (thRow { y with push := none, ripe := r } { v with up := .pointer none, rv := .slice ad ln cap }) :: pts tb (trRow b a (lvP pre.length lb) pick) :: arP 142 a B :: pts lb (lvRow U sz pre L post) :: tvP v.tv y.txns :: evsP v.ev y.evs :: rowP 1 v.cv (y.cache.map encI) :: rowP 2 v.lv (y.limbo.map Ret.enc) :: rdP (.slice ad ln cap) r :: opP entP v.ep y.ent :: opP popP v.pp y.pop :: opP attP v.ap y.att :: opP advP v.dp y.adv :: R) h4 := by
              exact hn (hp.re 14 [0, 1, 4, 5, 6, 7, 8, 9, 2, 10, 11, 12, 13])
            have := opP_no (P := pushP) z2
            exact hn (this.re 5 [3, 0, 1, 2, 4])
          · rw [if_neg (fun q => c q.2)] at hK
            refine hK _ (back (v' := { v with up := ptr qb }) (c := some q') (ri := y.ripe) ?_ rfl rfl rfl rfl hr.symm rfl rfl rfl rfl rfl)
            have := opP_mk (P := pushP) (hn (hp.up 1))
            exact hn (this.re 5 [1, 0, 2, 3, 4])
      refine wk ?_
      cases hq : y.push with
      | none =>
        rw [hq] at hp
        have e := opP_none (hn (hp.up 10))
        rw [e]
        refine wk ?_
        obtain ⟨p, d1, d2⟩ := (All.rd (hn (hp.up 8))).get1 (i := 0) (x := i64 s) (by rw [hr]; rfl) .i64
        refine bnd_of d1 (bnd_of d2 ?_)
        refine T_NewPush (hn (hp.re 14 [0, 1, 2, 3, 4, 5, 6, 7, 8, 9, 11, 12, 13])) hm.1 hm.2 fun qb h1 hp => ?_
        replace hp := hp.re 2 [1, 0]
        replace hp := Go.Proofs.YtcpfkkppfgolaaaGreatDoor.hn hp
        refine wk ?_
        refine st0 hp (thRow y { v with up := ptr qb }) rfl (Nat.le_of_ble_eq_true rfl) rfl rfl fun h2 hp => ?_
        refine j3 _ (ths (v := { v with up := ptr qb }) ?_)
        have := opP_mk (P := pushP) (y := Push.new s) (hn (hp.up 1))
        rw [hq]
        exact hn (this.re 14 [1, 2, 3, 4, 5, 6, 7, 8, 9, 10, 0, 11, 12, 13])
      | some q =>
        have hq2 := hq
        rw [hq] at hp
        obtain ⟨qb, e, _⟩ := opP_some (hn (hp.up 10))
        rw [e]
        refine wk ?_
        have ex : ({ y with push := some (y.push.getD (.new s)) } : Th) = y := by
          rw [hq]; show ({ y with push := some q } : Th) = y; rw [← hq]
        exact j3 _ (by rw [ex]; exact hp0)
  -- the loop
  have hp0 := hp
  refine tho hp fun v hp => ?_
  unfold thRow trRow at hp
  refine wk ?_
  clear hp v
  have start := hp0
  rw [← Th.mv_zero x] at start
  refine Lfp_fam (ι := Nat) (fun _ => [ptr tb, ptr b]) (fun i h' => i ≤ x.ripe.length ∧ i + x.cache.length ≤ 2 ∧ (i ≠ 0 → x.push = none) ∧ All (arP 142 a A :: pts tb (trRow b a (lvP pre.length lb) pick) :: pts lb (lvRow U sz pre L post) :: thP b (x.mv i) :: R) h') (fun i => 2 - i) ?_ 0 h ⟨by omega, by omega, fun h => absurd rfl h, start⟩
  clear hp0 start
  rintro i h1 X ⟨hi, hi2, hi3, hp⟩ again
  simp only [tup_zero, tup_succ]
  have hp0 := hp
  refine tho hp fun v hp => ?_
  unfold thRow at hp
  refine wk ?_
  have epu : (x.mv i).push = x.push := rfl
  have eca : (x.mv i).cache = x.cache ++ x.ripe.take i := rfl
  have eri : (x.mv i).ripe = x.ripe.drop i := rfl
  have ecl : (x.mv i).cache.length = x.cache.length + i := by rw [eca, List.length_append, List.length_take]; omega
  have erl : (x.mv i).ripe.length = x.ripe.length - i := by rw [eri, List.length_drop]
  cases hq : x.push with
  | some q =>
    rw [epu, hq] at hp
    obtain ⟨qb, e, _⟩ := opP_some (hn (hp.up 10))
    rw [e]
    refine wk ?_
    have i0 : i = 0 := by
      rcases Nat.eq_zero_or_pos i with z | z
      · exact z
      · have := hi3 (by omega); rw [hq] at this; cases this
    subst i0
    rw [Th.mv_zero] at hp0
    exact fin _ _ _ (by rw [Th.cached_some (by rw [hq]; simp)]; exact hp0)
  | none =>
    rw [epu, hq] at hp
    have e := opP_none (hn (hp.up 10))
    rw [e]
    refine wk ?_
    have hlen : lnV v.rv = some (i64 (x.mv i).ripe.length) := by have := (All.rd (hn (hp.up 8))).len; rw [List.length_map] at this; exact this
    refine bnd_of hlen ?_
    refine wk ?_
    refine ifV_cases (fun c => ?_) fun c => ?_
    · refine wk ?_
      have hclen : lnV v.cv = some (i64 (x.mv i).cache.length) := by have := All.len (hn (hp.up 6)); rw [List.length_map] at this; exact this
      refine bnd_of hclen ?_
      refine wk ?_
      refine ifV_cases (fun c2 => ?_) fun c2 => ?_
      · unfold S105_j1
        refine wk ?_
        obtain ⟨s, hs⟩ : ∃ s, x.ripe[i]? = some s := ⟨_, List.getElem?_eq_getElem (by omega)⟩
        have hcons : x.ripe.drop i = s :: x.ripe.drop (i + 1) := by
          have hlt : i < x.ripe.length := by omega
          rw [List.drop_eq_getElem_cons hlt]
          rw [List.getElem?_eq_getElem hlt] at hs
          cases hs; rfl
        rw [eri, hcons] at hp
        obtain ⟨p, d1, d2⟩ := (All.rd (hn (hp.up 8))).get1 (i := 0) (x := i64 s) rfl .i64
        refine bnd_of d1 (bnd_of d2 ?_)
        refine wk ?_
        obtain ⟨v', d3, hp1⟩ := All.rdTl (hn (hp.up 8))
        refine bnd_of d3 ?_
        obtain ⟨ad0, ln0, cap0, rfl⟩ := All.isSliceR hp1
        replace hp := hn (hp1.re 9 [7, 0, 1, 2, 3, 4, 5, 6, 8])
        clear hp1
        refine bs0 (size := 1) hp ([s].map encI) rfl rfl (by simp) (encI_good _) fun sv h2 hp => ?_
        have r2 := hp.rows
        refine ap0 (hn (hp.up 1)) r2 (encI_good _) (by decide) (by simp only [List.length_map, List.length_cons, List.length_nil]; omega) fun cv' h3 hp => ?_
        obtain ⟨ad, ln, cap, rfl⟩ := All.isSlice hp
        replace hp := hn (hp.re 10 [3, 0, 2, 4, 5, 6, 7, 8, 9])
        refine wk ?_
        refine st0 hp (thRow (x.mv (i + 1)) { v with cv := .slice ad ln cap }) rfl (Nat.le_of_ble_eq_true rfl) rfl rfl fun h4 hp => ?_
        unfold thRow at hp
        refine wk ?_
        refine st0 hp (thRow (x.mv (i + 1)) { v with cv := .slice ad ln cap, rv := .slice ad0 ln0 cap0 }) rfl (Nat.le_of_ble_eq_true rfl) rfl rfl fun h5 hp => ?_
        refine again (i + 1) _ ⟨by omega, by omega, fun _ => hq, ?_⟩ (by omega)
        refine ths (v := { v with cv := .slice ad ln cap, rv := .slice ad0 ln0 cap0 }) ?_
        have ec2 : (x.mv (i + 1)).cache.map encI = (x.mv i).cache.map encI ++ [s].map encI := by
          show (x.cache ++ x.ripe.take (i + 1)).map encI = (x.cache ++ x.ripe.take i).map encI ++ [s].map encI
          rw [List.take_add_one, hs, ← List.map_append, List.append_assoc]; rfl
        rw [ec2]
        have epu2 : (x.mv (i + 1)).push = none := hq
        rw [epu2]
        exact hn (hp.re 9 [0, 3, 4, 5, 6, 7, 1, 8, 2])
      · exact fin _ _ _ (by rw [← Th.mv_cached hq hi hi2 (by omega)]; exact hp0)
    · exact fin _ _ _ (by rw [← Th.mv_cached hq hi hi2 (by omega)]; exact hp0)
end
end Go.Proofs.YtcpfkkppfgolaaaGreatDoor
namespace Go.Proofs.YtcpfkkppfgolaaaGreatDoor
open Go GW Go.Proofs
attribute [local irreducible] bnd ldV stV ifV binV eqI
set_option maxRecDepth 20000
section
variable {R : List Part} {h : GH} {K : Value → GH → Prop}
theorem T_atWonNil (hK : K (.bool false) h) : T Tryz.prog 169 [.pointer none] h K := by
  apply S169_T
  unfold S169
  refine wk ?_
  exact hK
theorem T_atAnswersNil (hK : K (.slice none 0 0) h) : T Tryz.prog 183 [.pointer none] h K := by
  apply S183_T
  unfold S183
  refine wk ?_
  exact hK
theorem ansP_set {v' : Value} {ws : List Value} {es : List Event} {i : Nat} {e' : Event} (hp : All (rowP 2 v' (e'.answers.map Answer.enc) :: ansP ws es :: R) h) : All (ansP (ws.set i v') (es.set i e') :: R) h := by
  refine (All.fold (l := [_, _]) hp).head fun h1 z j e w he hw => ?_
  rw [List.getElem?_set] at he hw
  split at he
  · rename_i c
    rw [if_pos c] at hw
    split at he
    · split at hw
      · cases he; cases hw; exact All.rows z
      · cases hw
    · cases he
  · rename_i c
    rw [if_neg c] at hw
    exact (z.tail.mono1 ansP.mono) j e w he hw
theorem ansP_same {ws : List Value} {es : List Event} {i : Nat} {e0 e' : Event} (he0 : es[i]? = some e0) (ha : e'.answers = e0.answers) (hp : All (ansP ws es :: R) h) : All (ansP ws (es.set i e') :: R) h := by
  refine hp.head fun h1 z j e w he hw => ?_
  rw [List.getElem?_set] at he
  split at he
  · rename_i c
    split at he
    · cases he; subst c; rw [ha]; exact z _ e0 w he0 hw
    · cases he
  · exact z j e w he hw
theorem ev_st {v : Value} {cs : List (List Value)} {c : List Value} {i eb j : Nat} {y : Value} {K : GH → Prop} (hp : All (rowP 8 v cs :: R) h) (hc : cs[i]? = some c) (hi : isV 8 v (i64 i) = some (.pointer (some ⟨eb, i * 8, none⟩))) (hy : y.cells.size = 1) (hy2 : y.cells.toList = [y]) (hj : j < 8)
    (k : ∀ h', All (rowP 8 v (cs.set i (c.set j y)) :: R) h' → K h') (ho : oneCell y = true := by rfl) : bnd (stV 1 (.pointer (some ⟨eb, i * 8 + j, none⟩)) y h) K := by
  obtain ⟨b', i1, _, _, i4⟩ := All.elt hp hc .i64
  rw [hi] at i1
  cases i1
  obtain ⟨h', e, hp⟩ := i4 j 1 y hy (by omega) (by rw [hy2]; simp [ho])
  rw [hy2] at hp
  exact bnd_of e (k _ hp)
theorem evTurn_set {es : List Event} {e : Event} {f : Event → Event} (h : es.getLast? = some e) : evTurn es f = es.set (es.length - 1) (f e) := by
  unfold evTurn; rw [h]
end
theorem Th.ok.limbo_small {x : Th} (o : x.ok) : x.limbo.length ≤ 200 := by
  have h1 := o.cap; have h2 := o.evs; have h3 := thrMay_spec o.txns; have h4 := o.t1; have h5 := o.k1
  have f : flagOf x.next ≤ 1 := by unfold flagOf; split <;> omega
  omega
section
variable {P1 P2 P3 : Part} {a b tb : Nat} {lp : Value} {pick : Int} {A : Ar} {R : List Part} {h : GH} {K : Value → GH → Prop} {x : Th}
theorem T_enters (hp : All (arP 142 a A :: pts tb (trRow b a lp pick) :: P3 :: thP b x :: R) h) (o : x.ok)
    (hK : ∀ h', All (arP 142 a (x.ents A).2.2 :: pts tb (trRow b a lp pick) :: P3 :: thP b (x.ents A).1 :: R) h' → K (i64 (x.ents A).2.1) h') : T Tryz.prog 84 [ptr tb] h K := by
  apply S84_T
  unfold S84
  have hp0 := hp
  refine tho hp fun v hp => ?_
  unfold thRow trRow at hp
  refine wk ?_
  unfold Th.ents at hK
  cases he : x.ent with
  | none =>
    rw [he] at hp hK
    dsimp only at hK
    have e := opP_none (hn (hp.up 9))
    rw [e]
    refine wk ?_
    refine T_enterStepNil ?_
    refine wk ?_
    unfold S84_j1
    refine wk ?_
    exact hK _ hp0
  | some n =>
    have on := o.ent n he
    rw [he] at hp hK
    dsimp only at hK
    obtain ⟨nb, e, hp1⟩ := opP_some (hn (hp.up 9))
    replace hp := hp1
    rw [e] at hp ⊢
    clear hp1
    replace hp := hp.re 4 [1, 2, 3, 0]
    replace hp := Go.Proofs.YtcpfkkppfgolaaaGreatDoor.hn hp
    refine wk ?_
    replace hp := hp.re 4 [2, 3, 0, 1]
    replace hp := Go.Proofs.YtcpfkkppfgolaaaGreatDoor.hn hp
    refine T_enterStep hp on fun h2 hp => ?_
    have os := (Ent.step_ok on (arP.at hp0).2).1
    generalize n.step A = z at hp hK os
    obtain ⟨n', code, B⟩ := z
    dsimp only at hp hK os ⊢
    refine wk ?_
    have back : ∀ {h'} {w : Th} {v' : ThV} {c : Option Ent} {ri : List Int} {li : List Ret}, All (arP 142 a B :: opP entP v'.ep c :: pts b (thRow w v') :: pts tb (trRow b a lp pick) :: P3 :: tvP v'.tv x.txns :: evsP v'.ev x.evs :: rowP 1 v'.cv (x.cache.map encI) :: rowP 2 v'.lv (li.map Ret.enc) :: rdP v'.rv ri :: opP pushP v'.up x.push :: opP popP v'.pp x.pop :: opP attP v'.ap x.att :: opP advP v'.dp x.adv :: R) h' →
        w.txns = x.txns → w.evs = x.evs → w.cache = x.cache → w.limbo = li → w.ripe = ri → w.ent = c → w.push = x.push → w.pop = x.pop → w.att = x.att → w.adv = x.adv →
        All (arP 142 a B :: pts tb (trRow b a lp pick) :: P3 :: thP b w :: R) h' := by
      intro h' w v' c ri li hp e1 e2 e3 e4 e5 e6 e7 e8 e9 e10
      refine ths (v := v') ?_
      rw [e1, e2, e3, e4, e5, e6, e7, e8, e9, e10]
      exact hn (hp.re 14 [2, 3, 0, 4, 5, 6, 7, 8, 9, 1, 10, 11, 12, 13])
    unfold S84_j1
    cases hov : n'.over with
    | false =>
      rw [if_neg (by rw [hov]; simp)] at hK
      refine wk ?_
      refine hK _ (back (v' := { v with ep := ptr nb }) (c := some n') (ri := x.ripe) (li := x.limbo) ?_ rfl rfl rfl rfl rfl rfl rfl rfl rfl rfl)
      have := opP_mk (P := entP) (hn (hp.up 1))
      exact hn (this.re 2 [1, 0])
    | true =>
      refine wk ?_
      refine ifV_cases (fun c => ?_) fun c => ?_
      · rw [if_pos ⟨hov, c⟩] at hK
        subst c
        replace hp := hp.re 4 [2, 3, 1, 0]
        replace hp := Go.Proofs.YtcpfkkppfgolaaaGreatDoor.hn hp
        refine wk ?_
        refine T_entEpoch (hn (hp.up 2)) ?_
        refine wk ?_
        refine T_limboTake hp (fun h' hp => All.rows (hn (hp.up 8))) o.li os.e0 (by have := os.e1; omega) (by have := o.limbo_small; omega) fun v1 v2 h3 hp => ?_
        obtain ⟨ad1, ln1, cap1, rfl⟩ := All.isSlice hp
        obtain ⟨ad2, ln2, cap2, rfl⟩ := All.isSlice (hn (hp.up 1))
        have hp := hp.head (Q := rdP _ _) fun _ z => z.rows
        replace hp := hn (hp.re 12 [2, 3, 0, 1, 4, 5, 6, 7, 8, 9])
        refine wk ?_
        refine st0 hp (thRow x { v with ep := ptr nb, rv := .slice ad1 ln1 cap1 }) rfl (Nat.le_of_ble_eq_true rfl) rfl rfl fun h4 hp => ?_
        unfold thRow at hp
        refine wk ?_
        refine st0 hp (thRow x { v with ep := ptr nb, rv := .slice ad1 ln1 cap1, lv := .slice ad2 ln2 cap2 }) rfl (Nat.le_of_ble_eq_true rfl) rfl rfl fun h5 hp => ?_
        unfold thRow at hp
        refine wk ?_
        refine st0 hp (thRow { x with next := some .fre } { v with ep := ptr nb, rv := .slice ad1 ln1 cap1, lv := .slice ad2 ln2 cap2 }) rfl (Nat.le_of_ble_eq_true rfl) rfl rfl fun h6 hp => ?_
        refine hK _ (back (v' := { v with ep := ptr nb, rv := .slice ad1 ln1 cap1, lv := .slice ad2 ln2 cap2 }) (c := some n') (ri := ripes x.limbo n'.e) (li := rests x.limbo n'.e) ?_ rfl rfl rfl rfl rfl rfl rfl rfl rfl rfl)
        have := opP_mk (P := entP) (hn (hp.up 4))
        exact hn (this.re 10 [5, 0, 1, 2, 6, 7, 8, 9, 4, 3])
      · rw [if_neg (fun q => c q.2)] at hK
        refine hK _ (back (v' := { v with ep := ptr nb }) (c := some n') (ri := x.ripe) (li := x.limbo) ?_ rfl rfl rfl rfl rfl rfl rfl rfl rfl rfl)
        have := opP_mk (P := entP) (hn (hp.up 1))
        exact hn (this.re 2 [1, 0])
theorem T_retires (hp : All (arP 142 a A :: pts tb (trRow b a lp pick) :: P3 :: thP b x :: R) h) (o : x.ok)
    (hK : ∀ h', All (arP 142 a (x.rets A).2.2 :: pts tb (trRow b a lp pick) :: P3 :: thP b (x.rets A).1 :: R) h' → K (i64 (x.rets A).2.1) h') : T Tryz.prog 153 [ptr tb] h K := by
  apply S153_T
  unfold S153
  have hA := (arP.at hp).2
  have olim := o.limbo_small
  replace hp := hn (hp.re 4 [1, 0, 2, 3])
  unfold trRow at hp
  refine wk ?_
  replace hp := hn (hp.re 4 [1, 0, 2, 3])
  refine L_Load hp (by decide) (by decide) fun h1 hp => ?_
  refine wk ?_
  refine T_epOf (Ar.at_range hA 29).2 ?_
  refine wk ?_
  unfold Th.rets at hK
  cases hi : epIs (A.at 29) with
  | false =>
    rw [hi] at hK
    refine wk ?_
    exact hK _ hp
  | true =>
    rw [hi, if_pos rfl] at hK
    refine wk ?_
    refine tho hp fun v hp => ?_
    unfold thRow at hp
    refine wk ?_
    replace hp := hn (hp.re 8 [7, 0, 1, 2, 3, 4, 5, 6])
    refine bs0 (size := 2) hp ([Ret.mk x.slot (valOf (A.at 29))].map Ret.enc) rfl rfl (by simp) (ret_good _) fun sv h2 hp => ?_
    have r2 := hp.rows
    refine ap0 (hn (hp.up 1)) r2 (ret_good _) (by decide) (by simp only [List.length_map, List.length_cons, List.length_nil]; omega) fun lv' h3 hp => ?_
    obtain ⟨ad, ln, cap, rfl⟩ := All.isSlice hp
    rw [← List.map_append] at hp
    replace hp := hn (hp.re 9 [2, 0, 3, 4, 5, 6, 7, 8])
    refine wk ?_
    refine st0 hp (thRow x { v with lv := .slice ad ln cap }) rfl (Nat.le_of_ble_eq_true rfl) rfl rfl fun h4 hp => ?_
    unfold thRow at hp
    refine wk ?_
    refine st0 hp (thRow { x with slot := -1 } { v with lv := .slice ad ln cap }) rfl (Nat.le_of_ble_eq_true rfl) rfl rfl fun h5 hp => ?_
    unfold thRow at hp
    refine wk ?_
    refine st0 hp (thRow { x with slot := -1, next := some .lea } { v with lv := .slice ad ln cap }) rfl (Nat.le_of_ble_eq_true rfl) rfl rfl fun h6 hp => ?_
    unfold thRow at hp
    refine wk ?_
    have back : ∀ {h'} {w : Th}, All (pts b (thRow w { v with lv := .slice ad ln cap }) :: rowP 2 (.slice ad ln cap) ((x.limbo ++ [Ret.mk x.slot (valOf (A.at 29))]).map Ret.enc) :: pts tb (trRow b a lp pick) :: arP 142 a (A.ld 29) :: P3 :: tvP v.tv x.txns :: evsP v.ev x.evs :: rowP 1 v.cv (x.cache.map encI) :: rdP v.rv x.ripe :: opP entP v.ep x.ent :: opP pushP v.up x.push :: opP popP v.pp x.pop :: opP attP v.ap x.att :: opP advP v.dp x.adv :: R) h' →
        w.txns = x.txns → w.evs = x.evs → w.cache = x.cache → w.limbo = x.limbo ++ [Ret.mk x.slot (valOf (A.at 29))] → w.ripe = x.ripe → w.ent = x.ent → w.push = x.push → w.pop = x.pop → w.att = x.att → w.adv = x.adv →
        All (arP 142 a (A.ld 29) :: pts tb (trRow b a lp pick) :: P3 :: thP b w :: R) h' := by
      intro h' w hp e1 e2 e3 e4 e5 e6 e7 e8 e9 e10
      refine ths (v := { v with lv := .slice ad ln cap }) ?_
      rw [e1, e2, e3, e4, e5, e6, e7, e8, e9, e10]
      exact hn (hp.re 9 [0, 2, 3, 4, 5, 6, 7, 1, 8])
    cases ha : x.att with
    | none =>
      have hwv : (x.att.map At.won).getD false = false := by rw [ha]; rfl
      rw [hwv, if_neg (by decide)] at hK
      have e := opP_none (P := attP) (hn ((show All _ h6 from by rw [ha] at hp; exact hp).up 12))
      rw [e]
      refine T_atWonNil ?_
      refine wk ?_
      exact hK _ (back hp rfl rfl rfl rfl rfl rfl rfl rfl rfl rfl)
    | some y =>
      have hwv : (x.att.map At.won).getD false = y.won := by rw [ha]; rfl
      rw [hwv] at hK
      obtain ⟨yb, e, hq⟩ := opP_some (P := attP) (hn ((show All _ h6 from by rw [ha] at hp; exact hp).up 12))
      rw [e]
      refine T_atWon hq ?_
      cases hw : y.won with
      | true =>
        rw [hw, if_pos rfl] at hK
        refine wk ?_
        refine st0 hp (thRow { x with slot := -1, next := some .lea, end_ := 0 } { v with lv := .slice ad ln cap }) rfl (Nat.le_of_ble_eq_true rfl) rfl rfl fun h7 hp => ?_
        exact hK _ (back hp rfl rfl rfl rfl rfl rfl rfl rfl rfl rfl)
      | false =>
        rw [hw, if_neg (by decide)] at hK
        refine wk ?_
        exact hK _ (back hp rfl rfl rfl rfl rfl rfl rfl rfl rfl rfl)
theorem T_leaves (hp : All (arP 142 a A :: pts tb (trRow b a lp pick) :: P3 :: thP b x :: R) h) (o : x.ok)
    (hK : ∀ h', All (arP 142 a (x.leas A).2.2 :: pts tb (trRow b a lp pick) :: P3 :: thP b (x.leas A).1 :: R) h' → K (i64 (x.leas A).2.1) h') : T Tryz.prog 136 [ptr tb] h K := by
  apply S136_T
  unfold S136
  have n0 := o.n0; have n1 := o.n1; have i0 := o.i0; have i1 := o.i1
  refine tho hp fun v hp => ?_
  unfold thRow trRow at hp
  refine wk ?_
  refine T_NewAdvance (hn (hp.re 14 [0, 1, 2, 3, 4, 5, 6, 7, 8, 9, 10, 11, 12])) n0 n1 fun db h1 hp => ?_
  replace hp := hn (hp.re 3 [1, 2, 0])
  refine wk ?_
  refine st0 hp (thRow x { v with dp := ptr db }) rfl (Nat.le_of_ble_eq_true rfl) rfl rfl fun h2 hp => ?_
  unfold thRow at hp
  refine wk ?_
  refine st0 hp (thRow { x with next := some .adv } { v with dp := ptr db }) rfl (Nat.le_of_ble_eq_true rfl) rfl rfl fun h3 hp => ?_
  unfold thRow at hp
  refine wk ?_
  replace hp := hn (hp.up 3)
  refine T_leave hp i0 (show x.id < 4 by omega) fun h4 hp => ?_
  refine hK _ (ths (v := { v with dp := ptr db }) ?_)
  have := opP_mk (P := advP) (y := Adv.new x.n) (hn (hp.up 3))
  exact hn (this.re 14 [2, 3, 1, 4, 5, 6, 7, 8, 9, 10, 11, 12, 13, 0])
theorem T_answer (hp : All (P1 :: P2 :: P3 :: thP b x :: R) h) (t0 : 0 ≤ x.tries) (t1 : x.tries < x.k) (k1 : x.k ≤ 16) (live : x.evs ≠ []) (oe : x.evs.length ≤ 8) (oa : ∀ n, x.att = some n → n.ans.length ≤ 2)
    (hK : ∀ h', All (P1 :: P2 :: P3 :: thP b (x.answer pick) :: R) h' → K (.tuple #[]) h') : T Tryz.prog 171 [ptr b, i64 pick] h K := by
  apply S171_T
  unfold S171
  refine tho hp fun v hp => ?_
  unfold thRow at hp
  refine wk ?_
  refine st0 hp (thRow { x with next := none } v) rfl (Nat.le_of_ble_eq_true rfl) rfl rfl fun h1 hp => ?_
  unfold thRow at hp
  refine wk ?_
  refine st0 hp (thRow { x with next := none, tries := x.tries + 1 } v) rfl (Nat.le_of_ble_eq_true rfl) rfl rfl fun h2 hp => ?_
  replace hp := hn (hp.up 5)
  refine evsP_open hp fun ws hl hp => ?_
  obtain ⟨e, w, g1, g2, g3, g4⟩ := evCs_last hl live
  obtain ⟨eb, i1, i2, i3, i4⟩ := All.elt hp g4 .i64
  have hlen : lnV v.ev = some (i64 x.evs.length) := by have := All.len hp; rw [evCs_len hl] at this; exact this
  have l0 := List.length_pos_iff.2 live
  replace hp := hn (hp.re 3 [2, 0, 1])
  refine T_event (x := { x with next := none, tries := x.tries + 1 }) hp hlen l0 (by omega) i1 ?_
  clear i2 i3 i4
  unfold thRow at hp
  refine wk ?_
  replace hp := hn (hp.up 1)
  refine ev_st (j := 6) hp g4 i1 rfl rfl (by decide) fun h3 hp => ?_
  rw [show (e.cells w).set 6 (i64 (x.tries + 1)) = ({ e with attempts := x.tries + 1 } : Event).cells w from rfl, evCs_set hl, set_self g3] at hp
  have hp := (ansP_same g2 (e' := { e with attempts := x.tries + 1 }) rfl (hn (hp.up 2))).re 3 [1, 2, 0]
  replace hp := hn hp
  -- the event, as it is now
  have g2' : (x.evs.set (x.evs.length - 1) { e with attempts := x.tries + 1 })[x.evs.length - 1]? = some { e with attempts := x.tries + 1 } := List.getElem?_set_self (by omega)
  have hl' : ws.length = (x.evs.set (x.evs.length - 1) { e with attempts := x.tries + 1 }).length := by rw [List.length_set]; exact hl
  have back : ∀ {h'} {y : Th} {v' : ThV} {es' : List Event} {ws' : List Value}, ws'.length = es'.length → All (rowP 8 v'.ev (evCs es' ws') :: ansP ws' es' :: pts b (thRow y v') :: P2 :: P1 :: P3 :: tvP v'.tv x.txns :: rowP 1 v'.cv (x.cache.map encI) :: rowP 2 v'.lv (x.limbo.map Ret.enc) :: rdP v'.rv x.ripe :: opP entP v'.ep x.ent :: opP pushP v'.up x.push :: opP popP v'.pp x.pop :: opP attP v'.ap x.att :: opP advP v'.dp x.adv :: R) h' →
      y.txns = x.txns → y.evs = es' → y.cache = x.cache → y.limbo = x.limbo → y.ripe = x.ripe → y.ent = x.ent → y.push = x.push → y.pop = x.pop → y.att = x.att → y.adv = x.adv →
      All (P1 :: P2 :: P3 :: thP b y :: R) h' := by
    intro h' y v' es' ws' hw hp e1 e2 e3 e4 e5 e6 e7 e8 e9 e10
    refine ths (v := v') ?_
    rw [e1, e2, e3, e4, e5, e6, e7, e8, e9, e10]
    have := evsP_shut hw hp
    exact hn (this.re 6 [1, 2, 3, 4, 5, 0])
  unfold Th.answer at hK
  replace hp := hn (hp.re 3 [1, 0, 2])
  refine wk ?_
  have j2 : ∀ h', ¬ (x.end_ = 2 ∧ x.tries + 1 < x.k) → All (pts b (thRow { x with next := none, tries := x.tries + 1 } v) :: rowP 8 v.ev (evCs (x.evs.set (x.evs.length - 1) { e with attempts := x.tries + 1 }) ws) :: ansP ws (x.evs.set (x.evs.length - 1) { e with attempts := x.tries + 1 }) :: P2 :: P1 :: P3 :: tvP v.tv x.txns :: rowP 1 v.cv (x.cache.map encI) :: rowP 2 v.lv (x.limbo.map Ret.enc) :: rdP v.rv x.ripe :: opP entP v.ep x.ent :: opP pushP v.up x.push :: opP popP v.pp x.pop :: opP attP v.ap x.att :: opP advP v.dp x.adv :: R) h' →
      S171_j2 (ptr b) (i64 pick) (.pointer (some ⟨eb, (x.evs.length - 1) * 8, none⟩)) h' K := by
    intro h' c hp
    rw [if_neg c] at hK
    have j3 : ∀ h' w' (rs : List Answer), rs = (if x.end_ = 0 then (x.att.map At.ans).getD [] else e.answers) → All (pts b (thRow { x with next := none, tries := x.tries + 1 } v) :: rowP 8 v.ev (evCs (x.evs.set (x.evs.length - 1) { e with attempts := x.tries + 1, answers := rs }) (ws.set (x.evs.length - 1) w')) :: ansP (ws.set (x.evs.length - 1) w') (x.evs.set (x.evs.length - 1) { e with attempts := x.tries + 1, answers := rs }) :: P2 :: P1 :: P3 :: tvP v.tv x.txns :: rowP 1 v.cv (x.cache.map encI) :: rowP 2 v.lv (x.limbo.map Ret.enc) :: rdP v.rv x.ripe :: opP entP v.ep x.ent :: opP pushP v.up x.push :: opP popP v.pp x.pop :: opP attP v.ap x.att :: opP advP v.dp x.adv :: R) h' →
        S171_j3 (ptr b) (i64 pick) (.pointer (some ⟨eb, (x.evs.length - 1) * 8, none⟩)) h' K := by
      intro h' w' rs ers hp
      have q2 : (x.evs.set (x.evs.length - 1) { e with attempts := x.tries + 1, answers := rs })[x.evs.length - 1]? = some { e with attempts := x.tries + 1, answers := rs } := List.getElem?_set_self (by omega)
      have q3 : (ws.set (x.evs.length - 1) w')[x.evs.length - 1]? = some w' := List.getElem?_set_self (by omega)
      have ql : (ws.set (x.evs.length - 1) w').length = (x.evs.set (x.evs.length - 1) { e with attempts := x.tries + 1, answers := rs }).length := by rw [List.length_set, List.length_set]; exact hl
      unfold S171_j3
      unfold thRow at hp
      refine wk ?_
      replace hp := hn (hp.up 1)
      refine ev_st (j := 5) hp (evCs_get q2 q3) i1 rfl rfl (by decide) fun h4 hp => ?_
      rw [show (({ e with attempts := x.tries + 1, answers := rs } : Event).cells w').set 5 (i64 x.end_) = ({ e with attempts := x.tries + 1, answers := rs, end_ := x.end_ } : Event).cells w' from rfl, evCs_set ql, set_self q3, List.set_set] at hp
      refine wk ?_
      refine ev_st (j := 4) hp (evCs_get (List.getElem?_set_self (by omega)) q3) i1 rfl rfl (by decide) fun h5 hp => ?_
      rw [show (({ e with attempts := x.tries + 1, answers := rs, end_ := x.end_ } : Event).cells w').set 4 (i64 pick) = ({ e with attempts := x.tries + 1, answers := rs, end_ := x.end_, answered := pick } : Event).cells w' from rfl, evCs_set (by rw [List.length_set, List.length_set]; exact hl), set_self q3, List.set_set] at hp
      refine wk ?_
      replace hp := hn (hp.up 1)
      refine st0 hp (thRow { x with next := none, tries := 0 } v) rfl (Nat.le_of_ble_eq_true rfl) rfl rfl fun h6 hp => ?_
      have hp := (ansP_same q2 (e' := { e with attempts := x.tries + 1, answers := rs, end_ := x.end_, answered := pick }) rfl (hn (hp.up 2))).re 3 [2, 0, 1]
      rw [List.set_set] at hp
      replace hp := hn hp
      refine hK _ (back (v' := v) (ws' := ws.set (x.evs.length - 1) w') (es' := x.evs.set (x.evs.length - 1) { e with attempts := x.tries + 1, answers := rs, end_ := x.end_, answered := pick }) (by rw [List.length_set, List.length_set]; exact hl) hp rfl ?_ rfl rfl rfl rfl rfl rfl rfl rfl)
      show evTurn x.evs _ = _
      rw [evTurn_set g1, ers]
    unfold S171_j2
    unfold thRow at hp
    refine wk ?_
    refine ifV_cases (fun c0 => ?_) fun c0 => ?_
    · refine wk ?_
      cases ha : x.att with
      | none =>
        have ee := opP_none (P := attP) (hn ((show All _ h' from by rw [ha] at hp; exact hp).up 13))
        rw [ee]
        refine T_atAnswersNil ?_
        refine wk ?_
        replace hp := hn (hp.up 1)
        refine ev_st (j := 7) hp (evCs_get g2' g3) i1 rfl rfl (by decide) fun h4 hp => ?_
        rw [show (({ e with attempts := x.tries + 1 } : Event).cells w).set 7 (.slice none 0 0) = ({ e with attempts := x.tries + 1, answers := [] } : Event).cells (.slice none 0 0) from rfl, evCs_set hl', List.set_set] at hp
        have hp := ansP_set (i := x.evs.length - 1) (e' := { e with attempts := x.tries + 1, answers := [] }) ((hn (hp.up 2)).emp_cons (rowP_nil _ _))
        rw [List.set_set] at hp
        exact j3 _ _ [] (by rw [if_pos c0, ha]; rfl) (hn (hp.re 3 [2, 1, 0]))
      | some y =>
        obtain ⟨yb, ee, hq⟩ := opP_some (P := attP) (hn ((show All _ h' from by rw [ha] at hp; exact hp).up 13))
        rw [ee]
        refine T_atAnswers hq (by have := oa y ha; omega) fun av h4 hp => ?_
        obtain ⟨ad, ln, cap, rfl⟩ := All.isSlice hp
        have hp := opP_mk (P := attP) (hn (hp.up 1))
        rw [← ee, ← ha] at hp
        replace hp := hn (hp.re 16 [3, 1, 4, 2, 5, 6, 7, 8, 9, 10, 11, 12, 13, 14, 0, 15])
        refine wk ?_
        refine ev_st (j := 7) hp (evCs_get g2' g3) i1 rfl rfl (by decide) fun h5 hp => ?_
        rw [show (({ e with attempts := x.tries + 1 } : Event).cells w).set 7 (.slice ad ln cap) = ({ e with attempts := x.tries + 1, answers := y.ans } : Event).cells (.slice ad ln cap) from rfl, evCs_set hl', List.set_set] at hp
        have hp := ansP_set (i := x.evs.length - 1) (e' := { e with attempts := x.tries + 1, answers := y.ans }) (hn (hp.re 3 [1, 2, 0]))
        rw [List.set_set] at hp
        exact j3 _ _ y.ans (by rw [if_pos c0, ha]; rfl) (hn (hp.re 3 [2, 1, 0]))
    · refine j3 _ w e.answers (by rw [if_neg c0]) ?_
      rw [set_self g3]
      exact hp
  refine ifV_cases (fun c => ?_) fun c => ?_
  · refine wk ?_
    unfold S171_j1
    refine ifV_cases (fun c2 => ?_) fun c2 => ?_
    · rw [if_pos ⟨c, c2⟩] at hK
      refine wk ?_
      refine T_Pause (by omega) (by omega) ?_
      refine wk ?_
      refine st0 hp (thRow { x with next := none, tries := x.tries + 1, pause := pauseM x.pol (x.tries + 1) } v) rfl (Nat.le_of_ble_eq_true rfl) rfl rfl fun h4 hp => ?_
      refine hK _ (back hl' (hn (hp.re 3 [1, 2, 0])) rfl ?_ rfl rfl rfl rfl rfl rfl rfl rfl)
      show evTurn x.evs _ = _
      rw [evTurn_set g1]
    · exact j2 _ (fun q => c2 q.2) hp
  · unfold S171_j1
    refine wk ?_
    exact j2 _ (fun q => c q.1) hp
end
end Go.Proofs.YtcpfkkppfgolaaaGreatDoor
namespace Go.Proofs.YtcpfkkppfgolaaaGreatDoor
open Go GW Go.Proofs
attribute [local irreducible] bnd ldV stV ifV binV eqI
set_option maxRecDepth 20000
section
variable {P1 P2 P3 : Part} {a b tb lb sz : Nat} {U : TypeId} {pre post : List Value} {lp : Value} {pick : Int} {A : Ar} {L : List Int} {R : List Part} {h : GH} {K : Value → GH → Prop} {x : Th}
theorem T_advances (hp : All (arP 142 a A :: pts tb (trRow b a lp pick) :: P3 :: thP b x :: R) h) (o : x.ok) (hx : x.next = some .adv)
    (hK : ∀ h', All (arP 142 a (x.advs A pick).2.2 :: pts tb (trRow b a lp pick) :: P3 :: thP b (x.advs A pick).1 :: R) h' → K (i64 (x.advs A pick).2.1) h') : T Tryz.prog 156 [ptr tb] h K := by
  apply S156_T
  unfold S156
  have live := o.live (.inl (by rw [hx]; simp))
  have oe : x.evs.length ≤ 8 := by have := o.evs; have := thrMay_spec o.txns; omega
  have hp0 := hp
  refine tho hp fun v hp => ?_
  unfold thRow trRow at hp
  refine wk ?_
  unfold Th.advs at hK
  cases he : x.adv with
  | none =>
    rw [he] at hp hK
    dsimp only at hK
    have e := opP_none (hn (hp.up 13))
    rw [e]
    refine wk ?_
    refine T_advStepNil ?_
    refine wk ?_
    unfold S156_j1
    refine wk ?_
    exact hK _ hp0
  | some d =>
    have od := o.adv d he
    rw [he] at hp hK
    dsimp only at hK
    obtain ⟨db, e, hp1⟩ := opP_some (hn (hp.up 13))
    replace hp := hp1
    rw [e] at hp ⊢
    clear hp1
    replace hp := hp.re 4 [1, 2, 3, 0]
    replace hp := Go.Proofs.YtcpfkkppfgolaaaGreatDoor.hn hp
    refine wk ?_
    replace hp := hp.re 4 [2, 3, 0, 1]
    replace hp := Go.Proofs.YtcpfkkppfgolaaaGreatDoor.hn hp
    refine T_advStep hp od fun h2 hp => ?_
    generalize d.step A = z at hp hK
    obtain ⟨d', code, B⟩ := z
    dsimp only at hp hK ⊢
    refine wk ?_
    have hp2 : All (arP 142 a B :: pts tb (trRow b a lp pick) :: P3 :: thP b { x with adv := some d' } :: R) h2 := by
      refine ths (v := { v with dp := ptr db }) ?_
      have := opP_mk (P := advP) (hn (hp.up 1))
      exact hn (this.re 14 [2, 3, 1, 4, 5, 6, 7, 8, 9, 10, 11, 12, 13, 0])
    unfold S156_j1
    cases hov : d'.over with
    | false =>
      rw [if_neg (by rw [hov]; simp)] at hK
      refine wk ?_
      exact hK _ hp2
    | true =>
      refine wk ?_
      refine ifV_cases (fun c => ?_) fun c => ?_
      · rw [if_pos ⟨hov, c⟩] at hK
        subst c
        replace hp := hn (hp2.re 4 [1, 0, 2, 3])
        unfold trRow at hp
        refine wk ?_
        refine T_answer hp o.t0 o.t1 o.k1 live oe (fun n hn => (o.att n hn).2) fun h3 hp => ?_
        exact hK _ (hn (hp.re 4 [1, 0, 2, 3]))
      · rw [if_neg (fun q => c q.2)] at hK
        exact hK _ hp2
theorem T_thDone (hp : All (thP b x :: R) h) (oe : x.evs.length ≤ 8) (hK : K (.bool x.done) h) : T Tryz.prog 25 [ptr b] h K := by
  apply S25_T
  unfold S25
  refine thP_open hp fun v hp => ?_
  unfold thRow at hp
  refine wk ?_
  have hlen := evP_len (hn (hp.up 2))
  refine bnd_of hlen ?_
  refine wk ?_
  have htl : lnV v.tv = some (i64 x.txns.length) := by
    refine tvP_open (hn (hp.up 1)) fun cs hq => ?_
    have := hq.mono1 tv1.mono
    have h2 := this.1.len
    rw [this.2.1] at h2; exact h2
  refine bnd_of htl ?_
  refine wk ?_
  unfold Th.done at hK
  refine ifV_cases (fun c => ?_) fun c => ?_
  · rw [decide_eq_true (by omega), Bool.true_and] at hK
    refine wk ?_
    refine ifV_cases (fun c2 => ?_) fun c2 => ?_
    · have : x.evs = [] := List.length_eq_zero_iff.1 (by omega)
      rw [this] at hK
      exact hK
    · refine wk ?_
      refine evsP_open (hn (hp.up 2)) fun ws hl hp => ?_
      have live : x.evs ≠ [] := fun e => c2 (by rw [e]; rfl)
      obtain ⟨e, w, g1, g2, g3, g4⟩ := evCs_last hl live
      obtain ⟨eb, i1, i2, i3, i4⟩ := All.elt hp g4 .i64
      rw [g1] at hK
      have l0 := List.length_pos_iff.2 live
      rw [show (x.evs.length : Int) - 1 = ((x.evs.length - 1 : Nat) : Int) by omega]
      refine bnd_of i1 (bnd_of rfl (bnd_of (i2 4 1 (i64 e.answered) rfl) ?_))
      refine wk ?_
      exact hK
  · rw [decide_eq_false (by omega), Bool.false_and] at hK
    refine wk ?_
    exact hK
theorem evCs_snoc {es : List Event} {ws : List Value} (hl : ws.length = es.length) {e : Event} {w : Value} : evCs es ws ++ [e.cells w] = evCs (es ++ [e]) (ws ++ [w]) := by
  unfold evCs
  rw [List.zipWith_append hl.symm]; rfl
theorem ansP_snoc {ws : List Value} {es : List Event} {e' : Event} (ha : e'.answers = []) (hl : ws.length = es.length) (hp : All (ansP ws es :: R) h) : All (ansP (ws ++ [.slice none 0 0]) (es ++ [e']) :: R) h := by
  refine hp.head fun h1 z j e w he hw => ?_
  rw [List.getElem?_append] at he hw
  split at he
  · rw [if_pos (by omega)] at hw; exact z j e w he hw
  · rw [if_neg (by omega)] at hw
    have : j - es.length = 0 := by
      rcases Nat.eq_zero_or_pos (j - es.length) with q | q
      · exact q
      · rw [List.getElem?_eq_none (by simp; omega)] at he; cases he
    rw [this] at he
    rw [hl, this] at hw
    cases he; cases hw
    rw [ha]; exact rowsAt_nil _ _
theorem T_begin (hp : All (thP b x :: R) h) (o : x.ok) (hx : x.next = none)
    (hK : ∀ h', All (thP b (x.begin pick).1 :: R) h' → K (.bool (x.begin pick).2) h') : T Tryz.prog 52 [ptr b, i64 pick] h K := by
  apply S52_T
  unfold S52
  have oe : x.evs.length ≤ 8 := by have := o.evs; have := thrMay_spec o.txns; omega
  refine T_thDone hp oe ?_
  unfold Th.begin at hK
  cases hd : x.done with
  | true => rw [hd] at hK; refine wk ?_; exact hK _ hp
  | false =>
    rw [hd] at hK
    simp only [Bool.false_eq_true, if_false] at hK
    refine wk ?_
    refine thP_open hp fun v hp => ?_
    have p1 := o.p1; have i0 := o.i0; have i1 := o.i1; have n1 := o.n1
    unfold thRow at hp
    refine wk ?_
    refine ifV_cases (fun c => ?_) fun c => ?_
    · rw [if_pos c] at hK
      refine wk ?_
      refine st0 hp (thRow { x with pause := x.pause - 1 } v) rfl (Nat.le_of_ble_eq_true rfl) rfl rfl fun h1 hp => ?_
      exact hK _ (thP_shut (v := v) (x := { x with pause := x.pause - 1 }) hp)
    · rw [if_neg c] at hK
      have j1 : ∀ (es : List Event) (ev : Value) h', es = (if x.tries = 0 then x.evs ++ [⟨x.id, x.evs.length, pick, -1, -1, 0, 0, []⟩] else x.evs) → All (pts b (thRow x { v with ev := ev }) :: tvP v.tv x.txns :: evsP ev es :: rowP 1 v.cv (x.cache.map encI) :: rowP 2 v.lv (x.limbo.map Ret.enc) :: rdP v.rv x.ripe :: opP entP v.ep x.ent :: opP pushP v.up x.push :: opP popP v.pp x.pop :: opP attP v.ap x.att :: opP advP v.dp x.adv :: R) h' →
          S52_j1 (ptr b) h' K := by
        intro es ev h' ees hp
        unfold S52_j1
        unfold thRow at hp
        refine wk ?_
        refine T_NewEnter (hn (hp.re 11 [0, 1, 2, 3, 4, 5, 7, 8, 9, 10])) i0 (by omega) fun nb h1 hp => ?_
        replace hp := hn (hp.re 2 [1, 0])
        refine wk ?_
        refine st0 hp (thRow x { v with ev := ev, ep := ptr nb }) rfl (Nat.le_of_ble_eq_true rfl) rfl rfl fun h2 hp => ?_
        unfold thRow at hp
        refine wk ?_
        refine st0 hp (thRow { x with end_ := 2 } { v with ev := ev, ep := ptr nb }) rfl (Nat.le_of_ble_eq_true rfl) rfl rfl fun h3 hp => ?_
        unfold thRow at hp
        refine wk ?_
        refine st0 hp (thRow { x with end_ := 2, next := some .ent } { v with ev := ev, ep := ptr nb }) rfl (Nat.le_of_ble_eq_true rfl) rfl rfl fun h4 hp => ?_
        refine hK _ (thP_shut (v := { v with ev := ev, ep := ptr nb }) ?_)
        have := opP_mk (P := entP) (y := Ent.new x.id) (hn (hp.up 1))
        have := hn (this.re 11 [1, 2, 3, 4, 5, 6, 0, 7, 8, 9, 10])
        rw [ees] at this
        exact this
      refine wk ?_
      refine ifV_cases (fun c2 => ?_) fun c2 => ?_
      · refine wk ?_
        have hlen := evP_len (hn (hp.up 2))
        refine bnd_of hlen (bnd_of rfl ?_)
        replace hp := hn (hp.up 2)
        refine evsP_open hp fun ws hl hp => ?_
        have eg : good 8 ((⟨x.id, x.evs.length, pick, -1, -1, 0, 0, []⟩ : Event).cells (.slice none 0 0)) := ⟨rfl, rfl⟩
        refine bs0 (size := 8) hp [(⟨x.id, x.evs.length, pick, -1, -1, 0, 0, []⟩ : Event).cells (.slice none 0 0)] rfl rfl (by simp) (fun c hc => by rw [List.mem_singleton.1 hc]; exact eg) fun sv h2 hp => ?_
        have r2 := hp.rows
        refine ap0 (hn (hp.up 1)) r2 (fun c hc => by rw [List.mem_singleton.1 hc]; exact eg) (by decide) (by rw [evCs_len hl]; simp only [List.length_cons, List.length_nil]; omega) fun ev' h3 hp => ?_
        obtain ⟨ad, ln, cap, rfl⟩ := All.isSlice hp
        rw [evCs_snoc hl] at hp
        have hp := ansP_snoc (e' := ⟨x.id, x.evs.length, pick, -1, -1, 0, 0, []⟩) rfl hl (hn (hp.re 3 [2, 0]))
        have hl2 : (ws ++ [Value.slice none 0 0]).length = (x.evs ++ [(⟨x.id, x.evs.length, pick, -1, -1, 0, 0, []⟩ : Event)]).length := by simp [hl]
        have hp := evsP_shut hl2 (hn (hp.re 2 [1, 0]))
        replace hp := hn (hp.re 3 [1, 2, 0])
        refine wk ?_
        refine st0 hp (thRow x { v with ev := .slice ad ln cap }) rfl (Nat.le_of_ble_eq_true rfl) rfl rfl fun h4 hp => ?_
        exact j1 _ _ _ (by rw [if_pos c2]) hp
      · refine wk ?_
        exact j1 x.evs v.ev _ (by rw [if_neg c2]) hp
def Th.z (x : Th) : Th := { x with ts := -1, tg := 0 }
theorem Th.step_dead (h : x.dead = true) : x.step A L pick = (x, false, 1800, A, L) := by unfold Th.step; rw [if_pos h]
theorem Th.step_some {a : Act} (h : x.dead = false) (hx : x.next = some a) : x.step A L pick = Th.ended (x.z.act A L pick a) := by
  unfold Th.step
  rw [if_neg (by rw [h]; decide)]
  show (match x.next with | some a => Th.ended (x.z.act A L pick a) | none => _) = _
  rw [hx]
theorem Th.step_none (h : x.dead = false) (hx : x.next = none) : x.step A L pick = if (x.z.begin pick).2 then Th.ended ((x.z.begin pick).1.act A L pick .ent) else ((x.z.begin pick).1, false, 0, A, L) := by
  unfold Th.step
  rw [if_neg (by rw [h]; decide)]
  show (match x.next with | some a => _ | none => if (x.z.begin pick).2 then Th.ended ((x.z.begin pick).1.act A L pick .ent) else ((x.z.begin pick).1, false, 0, A, L)) = _
  rw [hx]
theorem T_thStep (hp : All (arP 142 a A :: pts lb (lvRow U sz pre L post) :: thP b x :: R) h) (o : x.ok) (lo : Lok L) (hpick : 0 ≤ pick)
    (hK : ∀ h', All (arP 142 a (x.step A L pick).2.2.2.1 :: pts lb (lvRow U sz pre (x.step A L pick).2.2.2.2 post) :: thP b (x.step A L pick).1 :: R) h' → K (.tuple #[.bool (x.step A L pick).2.1, i64 (x.step A L pick).2.2.1]) h') : T Tryz.prog 27 [ptr b, ptr a, lvP pre.length lb, i64 pick] h K := by
  apply S27_T
  unfold S27
  unfold lvP
  refine wk ?_
  unfold S27_j1
  refine wk ?_
  refine thP_open (hn (hp.up 2)) fun v hq => ?_
  replace hp := hq
  clear hq
  unfold thRow at hp
  refine wk ?_
  cases hd : x.dead with
  | true =>
    rw [Th.step_dead hd] at hK
    refine wk ?_
    exact hK _ (hn ((thP_shut (v := v) hp).re 3 [1, 2, 0]))
  | false =>
    refine wk ?_
    unfold S27_j2
    refine wk ?_
    refine st0 hp (thRow { x with ts := -1, tg := 0 } v) rfl (Nat.le_of_ble_eq_true rfl) rfl rfl fun h1 hp => ?_
    have o1 : x.z.ok := { o with }
    have j3 : ∀ (y : Th) (act : Act) h', y.ok → y.next = some act → All (arP 142 a A :: pts lb (lvRow U sz pre L post) :: thP b y :: R) h' →
        (∀ h'', All (arP 142 a (Th.ended (y.act A L pick act)).2.2.2.1 :: pts lb (lvRow U sz pre (Th.ended (y.act A L pick act)).2.2.2.2 post) :: thP b (Th.ended (y.act A L pick act)).1 :: R) h'' → K (.tuple #[.bool (Th.ended (y.act A L pick act)).2.1, i64 (Th.ended (y.act A L pick act)).2.2.1]) h'') →
        S27_j3 (ptr b) (ptr a) (.pointer (some ⟨lb, pre.length, none⟩)) (i64 pick) h' K := by
      intro y act h' oy hy hp hK
      unfold S27_j3
      refine thP_open (hn (hp.up 2)) fun v hq => ?_
      have hp0 := hp
      replace hp := hq
      clear hq
      unfold thRow at hp
      refine wk ?_
      replace hp := hp0
      refine nw hp (trRow b a (lvP pre.length lb) pick) rfl fun tb h2 hp => ?_
      replace hp := hn (hp.re 4 [1, 0, 2, 3])
      have live := oy.live (.inl (by rw [hy]; simp))
      -- behind the action
      have fin : ∀ (r : (Th × Int × Ar) × List Int) h', r = y.act A L pick act → All (arP 142 a r.1.2.2 :: pts tb (trRow b a (lvP pre.length lb) pick) :: pts lb (lvRow U sz pre r.2 post) :: thP b r.1.1 :: R) h' →
          bnd (eqI (i64 r.1.2.1) (.int .i64 0)) fun b9 => ifV (.bool (!b9)) (bnd (ncV (ptr b)) fun v10 => bnd (faV 7 v10) fun v11 => bnd (stV 1 v11 (.bool true) h') fun h12 => K (.tuple #[(.bool true), (.int .i64 1800)]) h12) (K (.tuple #[(.bool true), (.int .i64 0)]) h') := by
        intro r h' er hp
        rw [← er] at hK
        unfold Th.ended at hK
        refine wk ?_
        by_cases c : r.1.2.1 = 0
        · rw [if_pos c] at hK
          rw [decide_eq_true c]
          refine wk ?_
          exact hK _ (hn (hp.re 4 [0, 2, 3]))
        · rw [if_neg c] at hK
          rw [decide_eq_false c]
          refine wk ?_
          refine thP_open (hn (hp.up 3)) fun v hq => ?_
          replace hp := hq
          clear hq
          unfold thRow at hp
          refine wk ?_
          refine st0 hp (thRow { r.1.1 with dead := true } v) rfl (Nat.le_of_ble_eq_true rfl) rfl rfl fun h3 hp => ?_
          have := thP_shut (v := v) (x := { r.1.1 with dead := true }) hp
          exact hK _ (hn (this.re 4 [1, 3, 0]))
      rw [hy]
      cases act with
      | ent => exact T_enters hp oy fun h3 hp => fin (y.act A L pick .ent) _ rfl hp
      | fre => exact T_frees hp oy hy live lo fun h3 hp => fin (y.act A L pick .fre) _ rfl hp
      | tak => exact T_takes hp oy live lo fun h3 hp => fin (y.act A L pick .tak) _ rfl hp
      | tri => exact T_tries hp (fun n hn => (oy.att n hn).1) fun h3 hp => fin (y.act A L pick .tri) _ rfl hp
      | ret => exact T_retires hp oy fun h3 hp => fin (y.act A L pick .ret) _ rfl hp
      | lea => exact T_leaves hp oy fun h3 hp => fin (y.act A L pick .lea) _ rfl hp
      | adv => exact T_advances hp oy hy fun h3 hp => fin (y.act A L pick .adv) _ rfl hp
    unfold thRow at hp
    refine wk ?_
    have hp1 : All (thP b x.z :: arP 142 a A :: pts lb (lvRow U sz pre L post) :: R) h1 := thP_shut (v := v) hp
    cases hnx : x.next with
    | some act =>
      rw [Th.step_some hd hnx] at hK
      have enx : eqK NK.func true (actV (some act)) Value.nilFunc = some false := by cases act <;> rfl
      refine bnd_of enx ?_
      refine wk ?_
      exact j3 _ act _ o1 hnx (hn (hp1.re 3 [1, 2, 0])) hK
    | none =>
      rw [Th.step_none hd hnx] at hK
      refine wk ?_
      refine T_begin (pick := pick) hp1 o1 hnx fun h2 hp => ?_
      have hb := Th.begin_ok (pick := pick) o1 hnx
      generalize x.z.begin pick = r at hp hK hb
      obtain ⟨y, bb⟩ := r
      dsimp only at hp hK hb ⊢
      cases bb with
      | false =>
        rw [if_neg (by decide)] at hK
        refine wk ?_
        exact hK _ (hn (hp.re 3 [1, 2, 0]))
      | true =>
        rw [if_pos rfl] at hK
        refine wk ?_
        exact j3 y .ent _ hb.1 (hb.2 rfl) (hn (hp.re 3 [1, 2, 0])) hK
end
end Go.Proofs.YtcpfkkppfgolaaaGreatDoor
