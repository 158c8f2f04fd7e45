/- More of the library's contracts: all lie in the first text. -/
import Derived.Test.YtkoagpeeohmokaaGreatDoorShelf
