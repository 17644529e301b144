/- The plain functions of layer 1 (numbers in bytes), without the program. -/
set_option linter.unusedSimpArgs false
set_option linter.unusedVariables false
namespace Go.Proofs.YtokneepfknepaaaDoor

/-- Whether a byte's places beyond the bits that are left are as they must be. -/
def lebFits (c : Nat) (left : Nat) (sg : Bool) : Bool :=
  if 7 ≤ left then true
  else if sg then c % 128 / 2 ^ (left - 1) == 0 || c % 128 / 2 ^ (left - 1) == 127 / 2 ^ (left - 1)
  else c % 128 / 2 ^ left == 0

/-- The bits from d on set, of 64. -/
def lebSign (n d : Nat) : Nat := if d < 64 then n + (18446744073709551616 - 2 ^ d) else n

/-- Reads on: the value, the place behind it, the error. -/
def lebGo (sg : Bool) (bits : Nat) : List UInt8 → Nat → Nat → Nat → Nat × Nat × Nat
  | [], _, _, _ => (0, 0, 10)
  | c :: r, at_, done, n =>
    if lebFits c.toNat (bits - done) sg = false then (0, 0, 11)
    else if c.toNat < 128 then
      (if sg && decide (64 ≤ c.toNat) then lebSign ((n + c.toNat % 128 * 2 ^ done) % 18446744073709551616) (done + 7)
        else (n + c.toNat % 128 * 2 ^ done) % 18446744073709551616, at_ + 1, 0)
    else if bits ≤ done + 7 then (0, 0, 11)
    else lebGo sg bits r (at_ + 1) (done + 7) ((n + c.toNat % 128 * 2 ^ done) % 18446744073709551616)

/-- leb.read at a place that is there and so many bits. -/
def lebRead (bs : List UInt8) (at_ bits : Nat) (sg : Bool) : Nat × Nat × Nat :=
  if at_ ≤ bs.length then lebGo sg bits (bs.drop at_) at_ 0 0 else (0, 0, 2)

/-- A number of 64 bits as a signed one. -/
def toI64 (n : Nat) : Int := if n < 9223372036854775808 then (n : Int) else (n : Int) - 18446744073709551616

/-- The shortest bytes of an unsigned number. -/
def putU (n : Nat) : List UInt8 :=
  if n < 128 then [UInt8.ofNat n] else UInt8.ofNat (n % 128 + 128) :: putU (n / 128)
termination_by n
decreasing_by omega

/-- The shortest bytes of a signed number. -/
def putS (n : Int) : List UInt8 :=
  if -64 ≤ n ∧ n < 64 then [UInt8.ofNat (n % 128).toNat] else UInt8.ofNat ((n % 128).toNat + 128) :: putS (n / 128)
termination_by n.natAbs
decreasing_by omega

end Go.Proofs.YtokneepfknepaaaDoor
